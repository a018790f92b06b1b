/- MapM: a map that keeps what a function has computed: each entry is the function's value at its key. No condition. -/
import Derived.Test.YtfmplmlilmalpaaBase
import Derived.Maps.OwnSet
set_option linter.unusedVariables false
set_option linter.unusedSimpArgs false
namespace Go.Proofs.Ytfmplmlilmalpaa
open Go.ChangeShapes Go.WideShapes Go.ChangeAt Go.RowKit Go.Sort
open Go.Maps (Keyed)
/-- nothing but block c is written -/
theorem gro_refl (w : World) (c : Nat) : w.grownBy w (some c) := ⟨rfl, rfl, rfl, Nat.le_refl _, fun _ _ _ => rfl⟩
theorem gro_via {a w w' : World} {c : Nat} (h : a.grownBy w (some c)) (hb : Below w.heap.size w w') : a.grownBy w' (some c) :=
  ⟨hb.os.trans h.os, hb.tape.trans h.tape, hb.output.trans h.output, Nat.le_trans h.size hb.size, fun k hk hne => (hb.block k (Nat.lt_of_lt_of_le hk h.size)).trans (h.block k hk hne)⟩
theorem gro_trans {a w w' : World} {c : Nat} (h : a.grownBy w (some c)) (g : w.grownBy w' (some c)) : a.grownBy w' (some c) :=
  ⟨g.os.trans h.os, g.tape.trans h.tape, g.output.trans h.output, Nat.le_trans h.size g.size, fun k hk hne => (g.block k (Nat.lt_of_lt_of_le hk h.size) hne).trans (h.block k hk hne)⟩
theorem gro_below {w w' : World} {c : Nat} (hb : Below w.heap.size w w') : w.grownBy w' (some c) := gro_via (gro_refl w c) hb
theorem below_gro {w w' : World} {c : Nat} (hc : c ≤ w.heap.size) (h : w.grownBy w' (some c)) : Below c w w' := (Below.refl c w).grown h hc (fun k hk => by cases hk; exact Nat.le_refl _)
theorem gro_cell {w w' : World} {c b o : Nat} (h : w.grownBy w' (some c)) (hb : b < w.heap.size) (hne : b ≠ c) : w'.cell? ⟨b, o, none⟩ = w.cell? ⟨b, o, none⟩ := World.cell?_of_block (h.block b hb (fun e => hne (by cases e; rfl)))
theorem gro_frozen {w w' : World} {c b o : Nat} (h : w.grownBy w' (some c)) (hb : b < w.heap.size) (hne : b ≠ c) : w'.frozen? ⟨b, o, none⟩ = w.frozen? ⟨b, o, none⟩ := World.frozen?_of_block (h.block b hb (fun e => hne (by cases e; rfl)))
/-- block B is a map whose keys are among KS, each with the value G of its key -/
def Memo (w : World) (K E : TypeId) (B : Nat) (KS : List Lit) (G : Lit → Int) : Prop :=
  ∃ es : List (Lit × DataW Unit), w.ownsMap Try.prog K (plainElem Try.prog E) B KS.length (.map es) ∧ ∀ e ∈ es, e.1 ∈ KS ∧ e.2 = .lit (.int .i64 (G e.1))
theorem nodup_len {α : Type} : ∀ (l m : List α), l.Pairwise (· ≠ ·) → (∀ x ∈ l, x ∈ m) → l.length ≤ m.length
  | [], _, _, _ => by simp
  | x :: l, m, h, hs => by
    obtain ⟨h1, h2⟩ := List.pairwise_cons.1 h
    obtain ⟨s, t, rfl⟩ := List.append_of_mem (hs x (by simp))
    have := nodup_len l (s ++ t) h2 fun y hy => by
      have h3 := hs y (by simp [hy])
      have h4 := h1 y hy
      simp only [List.mem_append, List.mem_cons] at h3 ⊢
      rcases h3 with h3 | h3 | h3
      · exact Or.inl h3
      · exact absurd h3.symm h4
      · exact Or.inr h3
    simp only [List.length_append, List.length_cons] at this ⊢
    omega
theorem Memo.made (w : World) (K E : TypeId) (KS : List Lit) (G : Lit → Int) : Memo (w.alloc (.map #[] 0)) K E w.heap.size KS G :=
  ⟨[], (World.ownsMap_made w _ K _).mono (by omega), fun e h => by cases h⟩
theorem Memo.kept {w w' : World} {K E : TypeId} {B : Nat} {KS : List Lit} {G : Lit → Int} {row : Option Nat} (h : Memo w K E B KS G) (hg : w.grownBy w' row) (hne : some B ≠ row) : Memo w' K E B KS G := by
  obtain ⟨es, h1, h2⟩ := h
  exact ⟨es, h1.kept hg hne, h2⟩
theorem Memo.lt {w : World} {K E : TypeId} {B : Nat} {KS : List Lit} {G : Lit → Int} (h : Memo w K E B KS G) : B < w.heap.size := by
  obtain ⟨es, h1, _⟩ := h
  exact h1.lt
theorem Memo.below {w w' : World} {K E : TypeId} {B : Nat} {KS : List Lit} {G : Lit → Int} (h : Memo w K E B KS G) (hb : Below w.heap.size w w') : Memo w' K E B KS G := by
  obtain ⟨es, ⟨es0, clock, h1, h3⟩, h2⟩ := h
  have hlt : B < w.heap.size := by
    rcases Nat.lt_or_ge B w.heap.size with h | h
    · exact h
    · rw [Array.getElem?_eq_none h] at h1; cases h1
  exact ⟨es, ⟨es0, clock, (hb.block B hlt).trans h1, h3⟩, h2⟩
/-- a map's block has no cells -/
theorem Memo.nocell {w : World} {K E : TypeId} {B : Nat} {KS : List Lit} {G : Lit → Int} (h : Memo w K E B KS G) {b o : Nat} {u : Value} (hc : w.cell? ⟨b, o, none⟩ = some u) : b ≠ B := by
  rintro rfl
  obtain ⟨es, ⟨es0, clock, h1, h3⟩, h2⟩ := h
  simp [World.cell?, h1] at hc
theorem map_find (k : Lit) (z : DataW Unit) : ∀ es : List (Lit × DataW Unit), Maps.has (.map es) k = true → ∃ e ∈ es, e.1 = k ∧ DataW.atKey (.map es) k z = e.2
  | [], h => by simp [Maps.has] at h
  | x :: es, h => by
    cases hx : x.1.sameKey k
    · have h2 : Maps.has (.map es) k = true := by simpa [Maps.has, hx] using h
      obtain ⟨e, e1, e2, e3⟩ := map_find k z es h2
      refine ⟨e, by simp [e1], e2, ?_⟩
      rw [← e3]
      simp [DataW.atKey, hx]
    · exact ⟨x, by simp, WideAt.sameKey_eq hx, by simp [DataW.atKey, hx]⟩
/-- 'v, ok := m[k]' -/
theorem Memo.look {w : World} {K E : TypeId} {B : Nat} {KS : List Lit} {G : Lit → Int} (h : Memo w K E B KS G) (L : Keyed Try.prog K) {T : TypeId} (ht : Try.prog.underlying T = some (.map K E)) (he : Try.prog.underlying E = some (.int .i64)) (hz : (zeroValue E).run Try.prog w = .ok (.int .i64 0) w)
    {key : Value} {kl : Lit} (hkey : keyOf Try.prog K key = some kl) : ∃ (c : Int) (ok : Bool), (Instr.lookup T (.map (some B)) key true).run Try.prog w = .ok (.tuple #[.int .i64 c, .bool ok]) w ∧ (ok = true → c = G kl) := by
  obtain ⟨es, h1, h2⟩ := h
  obtain ⟨v, ps, hr, hv⟩ := h1.look_ok L ht hz (plainElem_int he (by decide)) hkey
  obtain ⟨c, rfl, hc, hwc⟩ := plainElem_int_inv he hv
  refine ⟨c, _, hr, fun hok => ?_⟩
  obtain ⟨e, e1, e2, e3⟩ := map_find kl (.lit (.int .i64 0)) es hok
  have e4 := congrArg Prod.fst hc
  simp only at e4
  rw [e3, (h2 e e1).2, e2] at e4
  simpa using e4.symm
theorem insert_mem {x e : Lit × DataW Unit} : ∀ {l : List (Lit × DataW Unit)}, e ∈ DataW.insert x l → e = x ∨ e ∈ l
  | [], h => by simp [DataW.insert] at h; exact Or.inl h
  | y :: l, h => by
    unfold DataW.insert at h
    split at h
    · simpa using h
    · rcases List.mem_cons.1 h with rfl | h
      · exact Or.inr (by simp)
      · rcases insert_mem h with h | h
        · exact Or.inl h
        · exact Or.inr (by simp [h])
/-- 'm[k] = v' -/
theorem Memo.store {w : World} {K E : TypeId} {B : Nat} {KS : List Lit} {G : Lit → Int} (h : Memo w K E B KS G) (L : Keyed Try.prog K) {T : TypeId} (ht : Try.prog.underlying T = some (.map K E)) (he : Try.prog.underlying E = some (.int .i64)) (hn : KS.length < maxLen)
    {key : Value} {kl : Lit} (hkey : keyOf Try.prog K key = some kl) (hk : kl ∈ KS) {v : Int} (hv : v = G kl) (hwf : (Lit.int .i64 v).wf = true) :
    ∃ w', (Instr.mapUpdate T (.map (some B)) key (.int .i64 v)).run Try.prog w = .ok () w' ∧ Memo w' K E B KS G ∧ w.mapTurned w' B := by
  subst hv
  obtain ⟨es, h1, h2⟩ := h
  obtain ⟨w', hr, h3, h4⟩ := h1.store L ht hn hkey (plainElem_int he hwf)
  refine ⟨w', hr, ?_, h4⟩
  obtain ⟨es', he', hp⟩ := h3.tidy L
  rw [he'] at h3
  have hm : ∀ e ∈ es', e.1 ∈ KS ∧ e.2 = .lit (.int .i64 (G e.1)) := by
    intro e hme
    have : es' = DataW.insert (kl, .lit (.int .i64 (G kl))) (es.filter fun p => !p.1.sameKey kl) := by
      simpa [DataW.put] using he'.symm
    rw [this] at hme
    rcases insert_mem hme with rfl | hme
    · exact ⟨hk, rfl⟩
    · exact h2 e (List.mem_filter.1 hme).1
  obtain ⟨es0, clock, hb, F, hs, hD⟩ := h3
  have hsz : es0.size ≤ KS.length := by
    have e1 : es'.length = es0.size := by
      have := congrArg Maps.size hD
      simpa [Maps.size, length_sorted] using this
    rw [← e1]
    have := nodup_len (es'.map (·.1)) KS (by
      rw [List.pairwise_map]
      exact hp) fun x hx => by
        obtain ⟨e, hme, rfl⟩ := List.mem_map.1 hx
        exact (hm e hme).1
    simpa using this
  exact ⟨es', ⟨es0, clock, hb, F, hsz, hD⟩, hm⟩
/-- at the operation: '(at_lookup; refine wpList_memo_look _ rfl _ _ T rfl hM law A.underlyingT A.underlyingE (zeroE _) rfl rfl hkey ?_; intro c ok hcok)' -/
theorem wpList_memo_look (w : World) {ops : Array Oper} {rest : List Oper} {o : Oper} {a : Act} {Q : Exit → Act → World → Prop} (hg : o.guard = none) (m x : Operand) (T : TypeId) (hop : o.op = Op.lookup T m x true)
    {K E : TypeId} {B : Nat} {KS : List Lit} {G : Lit → Int} (h : Memo w K E B KS G) (L : Keyed Try.prog K) (ht : Try.prog.underlying T = some (.map K E)) (he : Try.prog.underlying E = some (.int .i64)) (hz : (zeroValue E).run Try.prog w = .ok (.int .i64 0) w)
    {key : Value} {kl : Lit} (hm : a.eval m = .map (some B)) (hx : a.eval x = key) (hkey : keyOf Try.prog K key = some kl)
    (hK : ∀ (c : Int) (ok : Bool), (ok = true → c = G kl) → wpList Try.prog ops Q rest (a.put o.dst (.tuple #[.int .i64 c, .bool ok])) w) :
    wpList Try.prog ops Q (o :: rest) a w := by
  refine wpList_plain hg fun K' hK' => ?_
  obtain ⟨c, ok, hrun, hv⟩ := h.look L ht he hz hkey
  unfold Oper.wp
  simp [execOp, hop, hm, hx, hrun, Result.andThen]
  exact hK' _ _ (hK c ok hv)
theorem wpList_memo_store (w : World) {ops : Array Oper} {rest : List Oper} {o : Oper} {a : Act} {Q : Exit → Act → World → Prop} (hg : o.guard = none) (m x v : Operand) (T : TypeId) (hop : o.op = Op.mapUpdate T m x v)
    {K E : TypeId} {B : Nat} {KS : List Lit} {G : Lit → Int} (h : Memo w K E B KS G) (L : Keyed Try.prog K) (ht : Try.prog.underlying T = some (.map K E)) (he : Try.prog.underlying E = some (.int .i64)) (hn : KS.length < maxLen)
    {key : Value} {kl : Lit} {u : Int} (hm : a.eval m = .map (some B)) (hx : a.eval x = key) (hv : a.eval v = .int .i64 u) (hkey : keyOf Try.prog K key = some kl) (hk : kl ∈ KS) (hu : u = G kl) (hwf : (Lit.int .i64 u).wf = true)
    (hK : ∀ w', Memo w' K E B KS G → w.grownBy w' (some B) → wpList Try.prog ops Q rest (a.put o.dst undef) w') :
    wpList Try.prog ops Q (o :: rest) a w := by
  refine wpList_plain hg fun K' hK' => ?_
  obtain ⟨w', hrun, r1, r2⟩ := h.store L ht he hn hkey hk hu hwf
  unfold Oper.wp
  simp [execOp, hop, hm, hx, hv, hrun, Result.andThen]
  exact hK' _ _ (hK w' r1 r2.grown)
end Go.Proofs.Ytfmplmlilmalpaa
