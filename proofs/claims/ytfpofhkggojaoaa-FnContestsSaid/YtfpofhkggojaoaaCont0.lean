/- Cont0: what rankings, places and prizes of at most five entrants are like, plain; no program in sight. No condition. -/
import Derived.Test.YtfpofhkggojaoaaRank0
import Derived.Test.YtfpofhkggojaoaaPrizes
set_option linter.unusedVariables false
set_option linter.unusedSimpArgs false
namespace Peg
def tot (es : List Ent) (i : Nat) : Int := totalOf (gD es Ent0 i).rs
theorem bef_tot {e f : Ent} (h : bef e f = true) : totalOf f.rs ≤ totalOf e.rs := by
  unfold bef at h
  split at h
  · omega
  · have := of_decide_eq_true h; omega
theorem placesTo_gD {es : List Ent} {i : Nat} (h : i < es.length) : gD (placesTo es es.length) 0 i = placeTo es (tot es i) es.length := by
  rw [gD_lt _ _ _ (by rw [placesTo_len]; exact h)]
  simp [placesTo, tot]
theorem places_gD {es : List Ent} (hok : entsOk es = true) {i : Nat} (h : i < es.length) : gD (places es) 0 i = 1 + ((es.filter fun f => decide (tot es i < totalOf f.rs)).length : Int) := by
  rw [places, if_pos hok, placesTo_gD h, placeTo, List.take_length]
theorem filter_le {α : Type} {p q : α → Bool} (l : List α) (h : ∀ x ∈ l, p x = true → q x = true) : (l.filter p).length ≤ (l.filter q).length := by
  rw [← List.countP_eq_length_filter, ← List.countP_eq_length_filter]
  exact List.countP_mono_left h
theorem filter_lt {α : Type} {p q : α → Bool} : ∀ (l : List α), (∀ x ∈ l, p x = true → q x = true) → (∃ x ∈ l, q x = true ∧ p x = false) → (l.filter p).length < (l.filter q).length
  | [], _, ⟨x, hx, _⟩ => by cases hx
  | y :: l, h, ⟨x, hx, h1, h2⟩ => by
    have h3 := filter_le l (fun z hz => h z (by simp [hz]))
    rcases List.mem_cons.1 hx with rfl | hx
    · rw [List.filter_cons_of_neg (by simp [h2]), List.filter_cons_of_pos h1, List.length_cons]; omega
    · have h4 := filter_lt l (fun z hz => h z (by simp [hz])) ⟨x, hx, h1, h2⟩
      rw [List.filter_cons, List.filter_cons]
      split
      · rename_i hp
        rw [if_pos (h y (by simp) hp)]; simp; omega
      · split <;> simp <;> omega
theorem places_le {es : List Ent} (hok : entsOk es = true) {i k : Nat} (hi : i < es.length) (hk : k < es.length) (h : tot es k ≤ tot es i) : gD (places es) 0 i ≤ gD (places es) 0 k := by
  rw [places_gD hok hi, places_gD hok hk]
  have := filter_le (p := fun f : Ent => decide (tot es i < totalOf f.rs)) (q := fun f : Ent => decide (tot es k < totalOf f.rs)) es (fun x _ hx => by simp at hx ⊢; omega)
  omega
theorem places_lt {es : List Ent} (hok : entsOk es = true) {i k : Nat} (hi : i < es.length) (hk : k < es.length) : gD (places es) 0 i < gD (places es) 0 k ↔ tot es k < tot es i := by
  constructor
  · intro h
    by_cases hle : tot es i ≤ tot es k
    · have := places_le hok hk hi hle; omega
    · omega
  · intro h
    rw [places_gD hok hi, places_gD hok hk]
    have := filter_lt (p := fun f : Ent => decide (tot es i < totalOf f.rs)) (q := fun f : Ent => decide (tot es k < totalOf f.rs)) es (fun x _ hx => by simp at hx ⊢; omega)
      ⟨gD es Ent0 i, gD_mem _ _ _ hi, decide_eq_true h, by simp [tot]⟩
    omega
theorem places_len {es : List Ent} (hok : entsOk es = true) : (places es).length = es.length := by rw [places, if_pos hok, placesTo_len]
/-- the filter over a list, by its places -/
theorem filter_ix (es : List Ent) (p : Ent → Bool) : (es.filter p).length = ((List.range es.length).filter fun i => p (gD es Ent0 i)).length := by
  have h : es = (List.range es.length).map (fun i => gD es Ent0 i) := by
    apply List.ext_getElem
    · simp
    · intro i h1 h2; simp [gD_lt _ _ _ h1]
  conv => lhs; rw [h]
  rw [List.filter_map, List.length_map]; rfl
theorem rank_tot {es : List Ent} (hok : entsOk es = true) {i j : Nat} (hij : i < j) (hj : j < es.length) : tot es (gD (rankTo es es.length) 0 j) ≤ tot es (gD (rankTo es es.length) 0 i) := by
  have hs := rankTo_sorted (ranked_of hok) es.length (Nat.le_refl _)
  have hl := rankTo_length es es.length
  have h := (List.pairwise_iff_getElem.1 hs) i j (by omega) (by omega) hij
  rw [← gD_lt (rankTo es es.length) 0 i (by omega), ← gD_lt (rankTo es es.length) 0 j (by omega)] at h
  exact bef_tot h
theorem rank_lt {es : List Ent} {k : Nat} (h : k < es.length) : gD (rankTo es es.length) 0 k < es.length := rankTo_gD h
theorem rank_place {es : List Ent} (hok : entsOk es = true) {k : Nat} (hk : k < es.length) : gD (places es) 0 (gD (rankTo es es.length) 0 k) ≤ k + 1 := by
  rw [places_gD hok (rank_lt hk), filter_ix]
  have hl := rankTo_length es es.length
  have hp := (rankTo_perm es es.length).symm.filter fun i => decide (tot es (gD (rankTo es es.length) 0 k) < totalOf (gD es Ent0 i).rs)
  rw [hp.length_eq]
  have hsp : rankTo es es.length = (rankTo es es.length).take k ++ (rankTo es es.length).drop k := (List.take_append_drop _ _).symm
  have h0 : ((rankTo es es.length).drop k).filter (fun i => decide (tot es (gD (rankTo es es.length) 0 k) < totalOf (gD es Ent0 i).rs)) = [] := by
    rw [List.filter_eq_nil_iff]
    intro x hx
    obtain ⟨j, hj, rfl⟩ := List.mem_iff_getElem.1 hx
    rw [List.getElem_drop]
    have hj2 : k + j < es.length := by simp at hj; omega
    have e : (rankTo es es.length)[k + j]'(by omega) = gD (rankTo es es.length) 0 (k + j) := (gD_lt _ _ _ (by omega)).symm
    rw [e]
    have : tot es (gD (rankTo es es.length) 0 (k + j)) ≤ tot es (gD (rankTo es es.length) 0 k) := by
      rcases Nat.eq_zero_or_pos j with h | h
      · subst h; exact Int.le_refl _
      · exact rank_tot hok (by omega) hj2
    unfold tot at this ⊢
    simp; omega
  have h1 : ((rankTo es es.length).filter (fun i => decide (tot es (gD (rankTo es es.length) 0 k) < totalOf (gD es Ent0 i).rs))).length ≤ k := by
    conv => lhs; arg 1; arg 2; rw [hsp]
    rw [List.filter_append, h0, List.append_nil]
    refine Nat.le_trans (List.length_filter_le _ _) ?_
    rw [List.length_take]; omega
  omega
/-- the ranks' set -/
def orTo (L : List Nat) (k : Nat) : Nat := (L.take k).foldl (fun s i => s ||| 2 ^ i) 0
theorem orTo_succ {L : List Nat} {k : Nat} (h : k < L.length) : orTo L (k + 1) = orTo L k ||| 2 ^ (gD L 0 k) := by
  rw [orTo, List.take_succ_eq_append_getElem h, List.foldl_append, gD_lt _ _ _ h]; rfl
theorem orTo_bit (L : List Nat) (i : Nat) : ∀ a : Nat, (L.foldl (fun s i => s ||| 2 ^ i) a).testBit i = (a.testBit i || decide (i ∈ L)) := by
  induction L with
  | nil => intro a; simp
  | cons x L ih =>
    intro a
    rw [List.foldl_cons, ih, Nat.testBit_or, Nat.testBit_two_pow]
    by_cases h : i = x
    · subst h; simp
    · have h' : ¬ x = i := fun e => h e.symm
      simp [h, h']
theorem orTo_lt {L : List Nat} {n : Nat} (h : ∀ i ∈ L, i < n) (k : Nat) : orTo L k < 2 ^ n := by
  refine Nat.lt_pow_two_of_testBit _ fun i hi => ?_
  rw [orTo, orTo_bit]
  simp
  intro hm
  have := h i (List.mem_of_mem_take hm)
  omega
theorem orTo_perm {L : List Nat} {n : Nat} (h : L.Perm (List.range n)) : orTo L L.length = 2 ^ n - 1 := by
  apply Nat.eq_of_testBit_eq
  intro i
  rw [orTo, List.take_length, orTo_bit, Nat.testBit_two_pow_sub_one]
  have : i ∈ L ↔ i < n := by rw [h.mem_iff]; exact List.mem_range
  simp [this]
/-- no result of an entrant is better than the best -/
theorem best_none {rs : List Rs} (h : rs.all okR = true) {i : Nat} (hi : i < rs.length) : betR (gD rs Rs0 i) (gD rs Rs0 (bestOf rs).toNat) = false := by
  have hall : ∀ k, k < rs.length → okR (gD rs Rs0 k) = true := fun k hk => List.all_eq_true.1 h _ (gD_mem _ _ _ hk)
  have key : ∀ k, k ≤ rs.length → ∀ i, i < k → betR (gD rs Rs0 i) (gD rs Rs0 (bestRun rs k).toNat) = false := by
    intro k
    induction k with
    | zero => intro _ i hi; omega
    | succ k ih =>
      intro hk i hi
      have hb := bestRun_bd rs k
      rw [bestRun, bestStep]
      rcases Nat.eq_zero_or_pos k with h0 | h0
      · subst h0
        obtain rfl : i = 0 := by omega
        rw [if_pos (by simp [bestRun]), show ((0 : Nat) : Int).toNat = 0 from rfl, betR_lex (hall 0 (by omega)) (hall 0 (by omega))]
        exact lexB_irrefl _
      rw [if_neg (by omega)]
      have hbk : (bestRun rs k).toNat < rs.length := by omega
      split
      · rename_i hbt
        rw [Int.toNat_natCast]
        by_cases e : i = k
        · subst e
          rw [betR_lex (hall i (by omega)) (hall i (by omega))]; exact lexB_irrefl _
        · have h1 := ih (by omega) i (by omega)
          cases h2 : betR (gD rs Rs0 i) (gD rs Rs0 k)
          · rfl
          · rw [betR_lex (hall i (by omega)) (hall _ hbk)] at h1
            rw [betR_lex (hall i (by omega)) (hall k (by omega))] at h2
            rw [betR_lex (hall k (by omega)) (hall _ hbk)] at hbt
            rw [lexB_trans _ _ _ h2 hbt] at h1
            cases h1
      · rename_i hbt
        by_cases e : i = k
        · subst e; simpa using hbt
        · exact ih (by omega) i (by omega)
  rw [bestOf, if_pos h]
  exact key _ (Nat.le_refl _) i hi
/-- all lists of places -/
def listsP (n : Nat) : Nat → List (List Int)
  | 0 => [[]]
  | k + 1 => (List.range n).flatMap fun x : Nat => (listsP n k).map fun l => ((x : Int) + 1) :: l
theorem listsP_mem (n : Nat) : ∀ (l : List Int), (∀ x ∈ l, 1 ≤ x ∧ x ≤ n) → l ∈ listsP n l.length
  | [], _ => by simp [listsP]
  | y :: l, h => by
    have h1 := h y (by simp)
    refine List.mem_flatMap.2 ⟨(y - 1).toNat, List.mem_range.2 (by omega), List.mem_map.2 ⟨l, listsP_mem n l (fun x hx => h x (by simp [hx])), ?_⟩⟩
    rw [show (((y - 1).toNat : Nat) : Int) + 1 = y from by omega]
def przL : List Int := [100, 60, 30, 7]
def okP (p : List Int) : Bool := p.all fun x => x == 1 + ((p.filter fun y => decide (y < x)).length : Int)
def goodP (p : List Int) : Bool :=
  (fun m : List Int => decide (m.foldl (· + ·) 0 ≤ 197) && m.all (fun x => decide (0 ≤ x) && decide (x ≤ 100)) && (List.range p.length).all fun i => (List.range p.length).all fun k => !(decide (gD p 0 i < gD p 0 k)) || !(decide (gD m 0 i < gD m 0 k))) (sharesTo p przL p.length)
theorem all_good : (List.range 6).all (fun n => (listsP n n).all fun p => !(okP p) || goodP p) = true := by decide +kernel
theorem places_good {es : List Ent} (hok : entsOk es = true) (h5 : es.length ≤ 5) : goodP (places es) = true := by
  have hl := places_len hok
  have h1 := List.all_eq_true.1 all_good es.length (List.mem_range.2 (by omega))
  have hget : ∀ x ∈ places es, ∃ i, i < es.length ∧ x = gD (places es) 0 i := by
    intro x hx
    obtain ⟨i, hi, rfl⟩ := List.mem_iff_getElem.1 hx
    exact ⟨i, by omega, (gD_lt _ _ _ hi).symm⟩
  have hm := listsP_mem es.length (places es) (fun x hx => by
    obtain ⟨i, hi, rfl⟩ := hget x hx
    rw [places_gD hok hi]
    have h2 := filter_lt (p := fun f : Ent => decide (tot es i < totalOf f.rs)) (q := fun _ => true) es (fun _ _ _ => rfl) ⟨gD es Ent0 i, gD_mem _ _ _ hi, rfl, by simp [tot]⟩
    rw [List.filter_eq_self.2 (fun _ _ => rfl)] at h2
    omega)
  rw [hl] at hm
  have h2 := List.all_eq_true.1 h1 _ hm
  have hokp : okP (places es) = true := by
    refine List.all_eq_true.2 fun x hx => ?_
    obtain ⟨i, hi, rfl⟩ := hget x hx
    rw [beq_iff_eq]
    conv => lhs; rw [places_gD hok hi]
    have e : places es = es.map (fun f => placeTo es (totalOf f.rs) es.length) := by
      rw [places, if_pos hok]
      apply List.ext_getElem
      · simp [placesTo]
      · intro k h3 h4
        simp only [placesTo, List.getElem_map, List.getElem_range]
        rw [gD_lt _ _ _ (by simpa [placesTo] using h3)]
    have e3 : ((places es).filter fun y => decide (y < gD (places es) 0 i)).length = (es.filter fun f => decide (tot es i < totalOf f.rs)).length := by
     conv => lhs; arg 1; arg 2; rw [e]
     rw [List.filter_map, List.length_map]
     congr 1
     refine List.filter_congr fun f hf => ?_
     obtain ⟨j, hj, rfl⟩ := List.mem_iff_getElem.1 hf
     have h3 := places_lt hok hj hi
     rw [places, if_pos hok, placesTo_gD hj, placesTo_gD hi] at h3
     simp only [Function.comp]
     rw [places, if_pos hok, placesTo_gD hi]
     have e2 : tot es j = totalOf es[j].rs := by rw [tot, gD_lt _ _ _ hj]
     rw [e2] at h3
     by_cases h4 : tot es i < totalOf es[j].rs
     · rw [decide_eq_true (h3.2 h4), decide_eq_true h4]
     · rw [decide_eq_false (fun h5 => h4 (h3.1 h5)), decide_eq_false h4]
    rw [e3]
  simpa [hokp] using h2
def sumTo (M : List Int) (k : Nat) : Int := (M.take k).foldl (· + ·) 0
theorem sumTo_succ {M : List Int} {k : Nat} (h : k < M.length) : sumTo M (k + 1) = sumTo M k + gD M 0 k := by
  rw [sumTo, List.take_succ_eq_append_getElem h, List.foldl_append, gD_lt _ _ _ h]; rfl
theorem prizes_facts {es : List Ent} (hok : entsOk es = true) (h5 : es.length ≤ 5) : (prizesOf es przL).length = es.length ∧ sumTo (prizesOf es przL) es.length ≤ 197 ∧ (∀ i, i < es.length → 0 ≤ gD (prizesOf es przL) 0 i ∧ gD (prizesOf es przL) 0 i ≤ 100) ∧
    ∀ i k, i < es.length → k < es.length → gD (places es) 0 i < gD (places es) 0 k → ¬ gD (prizesOf es przL) 0 i < gD (prizesOf es przL) 0 k := by
  have hl := places_len hok
  have e : prizesOf es przL = sharesTo (places es) przL (places es).length := by rw [prizesOf, if_pos hok, if_pos (by rfl)]
  have hg := places_good hok h5
  have hlen : (prizesOf es przL).length = es.length := by rw [e, sharesTo_len, hl]
  unfold goodP at hg
  simp only [Bool.and_eq_true, decide_eq_true_eq] at hg
  rw [← e, hl] at hg
  obtain ⟨⟨h1, h2⟩, h3⟩ := hg
  refine ⟨hlen, ?_, fun i hi => ?_, fun i k hi hk hlt => ?_⟩
  · rw [sumTo, ← hlen, List.take_length]; exact h1
  · have := List.all_eq_true.1 h2 _ (gD_mem (prizesOf es przL) 0 i (by omega))
    simpa using this
  · have := List.all_eq_true.1 (List.all_eq_true.1 h3 i (List.mem_range.2 hi)) k (List.mem_range.2 hk)
    rw [decide_eq_true hlt] at this
    simpa using this
theorem sumTo_bd {M : List Int} {n : Nat} (hl : M.length = n) (h : ∀ i, i < n → 0 ≤ gD M 0 i ∧ gD M 0 i ≤ 100) : ∀ k, k ≤ n → 0 ≤ sumTo M k ∧ sumTo M k ≤ 100 * (k : Int)
  | 0, _ => by simp [sumTo]
  | k + 1, hk => by
    have h1 := sumTo_bd hl h k (by omega)
    have h2 := h k (by omega)
    rw [sumTo_succ (by omega)]
    omega
theorem ranking_gD {es : List Ent} (hok : entsOk es = true) (k : Nat) (h : k < es.length) : gD (ranking es) 0 k = ((gD (rankTo es es.length) 0 k : Nat) : Int) := by
  have hl := rankTo_length es es.length
  rw [ranking, if_pos hok, gD_lt _ _ _ (by simp; omega), gD_lt _ _ _ (by omega)]
  simp
theorem ranking_len {es : List Ent} (hok : entsOk es = true) : (ranking es).length = es.length := by rw [ranking, if_pos hok, List.length_map, rankTo_length]
end Peg
