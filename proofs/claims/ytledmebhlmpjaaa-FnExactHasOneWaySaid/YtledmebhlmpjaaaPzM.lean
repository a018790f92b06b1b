/- PzM: several texts in one (MapM, CountG, CountG2). Conditions: those that each theorem names. -/
import Derived.Test.YtledmebhlmpjaaaPzA
import Derived.Maps.OwnSet
import Derived.Test.YtledmebhlmpjaaaPzV
import Derived.Test.YtledmebhlmpjaaaPzB
import Derived.Deep.RegionWith
import Derived.Deep.DeepCutAuto
import Derived.Deep.Cut
import Derived.IntWalk
import Derived.Test.YtledmebhlmpjaaaReach
import Derived.Carry
set_option linter.unusedVariables false
set_option linter.unusedSimpArgs false
namespace Go.Proofs.Ytledmebhlmpjaaa
open Go.ChangeShapes Go.WideShapes Go.ChangeAt Go.RowKit Go.Sort
open Go.Maps (Keyed)
/-- nothing but block c is written -/
theorem gro_refl (w : World) (c : Nat) : w.grownBy w (some c) := ⟨rfl, rfl, rfl, Nat.le_refl _, fun _ _ _ => rfl⟩
theorem gro_via {a w w' : World} {c : Nat} (h : a.grownBy w (some c)) (hb : Below w.heap.size w w') : a.grownBy w' (some c) :=
  ⟨hb.os.trans h.os, hb.tape.trans h.tape, hb.output.trans h.output, Nat.le_trans h.size hb.size, fun k hk hne => (hb.block k (Nat.lt_of_lt_of_le hk h.size)).trans (h.block k hk hne)⟩
theorem gro_trans {a w w' : World} {c : Nat} (h : a.grownBy w (some c)) (g : w.grownBy w' (some c)) : a.grownBy w' (some c) :=
  ⟨g.os.trans h.os, g.tape.trans h.tape, g.output.trans h.output, Nat.le_trans h.size g.size, fun k hk hne => (g.block k (Nat.lt_of_lt_of_le hk h.size) hne).trans (h.block k hk hne)⟩
theorem gro_below {w w' : World} {c : Nat} (hb : Below w.heap.size w w') : w.grownBy w' (some c) := gro_via (gro_refl w c) hb
theorem below_gro {w w' : World} {c : Nat} (hc : c ≤ w.heap.size) (h : w.grownBy w' (some c)) : Below c w w' := (Below.refl c w).grown h hc (fun k hk => by cases hk; exact Nat.le_refl _)
theorem gro_cell {w w' : World} {c b o : Nat} (h : w.grownBy w' (some c)) (hb : b < w.heap.size) (hne : b ≠ c) : w'.cell? ⟨b, o, none⟩ = w.cell? ⟨b, o, none⟩ := World.cell?_of_block (h.block b hb (fun e => hne (by cases e; rfl)))
theorem gro_frozen {w w' : World} {c b o : Nat} (h : w.grownBy w' (some c)) (hb : b < w.heap.size) (hne : b ≠ c) : w'.frozen? ⟨b, o, none⟩ = w.frozen? ⟨b, o, none⟩ := World.frozen?_of_block (h.block b hb (fun e => hne (by cases e; rfl)))
/-- block B is a map whose keys are among KS, each with the value G of its key -/
def Memo (w : World) (K E : TypeId) (B : Nat) (KS : List Lit) (G : Lit → Int) : Prop :=
  ∃ es : List (Lit × DataW Unit), w.ownsMap Try.prog K (plainElem Try.prog E) B KS.length (.map es) ∧ ∀ e ∈ es, e.1 ∈ KS ∧ e.2 = .lit (.int .i64 (G e.1))
theorem nodup_len {α : Type} : ∀ (l m : List α), l.Pairwise (· ≠ ·) → (∀ x ∈ l, x ∈ m) → l.length ≤ m.length
  | [], _, _, _ => by simp
  | x :: l, m, h, hs => by
    obtain ⟨h1, h2⟩ := List.pairwise_cons.1 h
    obtain ⟨s, t, rfl⟩ := List.append_of_mem (hs x (by simp))
    have := nodup_len l (s ++ t) h2 fun y hy => by
      have h3 := hs y (by simp [hy])
      have h4 := h1 y hy
      simp only [List.mem_append, List.mem_cons] at h3 ⊢
      rcases h3 with h3 | h3 | h3
      · exact Or.inl h3
      · exact absurd h3.symm h4
      · exact Or.inr h3
    simp only [List.length_append, List.length_cons] at this ⊢
    omega
theorem Memo.made (w : World) (K E : TypeId) (KS : List Lit) (G : Lit → Int) : Memo (w.alloc (.map #[] 0)) K E w.heap.size KS G :=
  ⟨[], (World.ownsMap_made w _ K _).mono (by omega), fun e h => by cases h⟩
theorem Memo.kept {w w' : World} {K E : TypeId} {B : Nat} {KS : List Lit} {G : Lit → Int} {row : Option Nat} (h : Memo w K E B KS G) (hg : w.grownBy w' row) (hne : some B ≠ row) : Memo w' K E B KS G := by
  obtain ⟨es, h1, h2⟩ := h
  exact ⟨es, h1.kept hg hne, h2⟩
theorem Memo.lt {w : World} {K E : TypeId} {B : Nat} {KS : List Lit} {G : Lit → Int} (h : Memo w K E B KS G) : B < w.heap.size := by
  obtain ⟨es, h1, _⟩ := h
  exact h1.lt
theorem Memo.below {w w' : World} {K E : TypeId} {B : Nat} {KS : List Lit} {G : Lit → Int} (h : Memo w K E B KS G) (hb : Below w.heap.size w w') : Memo w' K E B KS G := by
  obtain ⟨es, ⟨es0, clock, h1, h3⟩, h2⟩ := h
  have hlt : B < w.heap.size := by
    rcases Nat.lt_or_ge B w.heap.size with h | h
    · exact h
    · rw [Array.getElem?_eq_none h] at h1; cases h1
  exact ⟨es, ⟨es0, clock, (hb.block B hlt).trans h1, h3⟩, h2⟩
/-- a map's block has no cells -/
theorem Memo.nocell {w : World} {K E : TypeId} {B : Nat} {KS : List Lit} {G : Lit → Int} (h : Memo w K E B KS G) {b o : Nat} {u : Value} (hc : w.cell? ⟨b, o, none⟩ = some u) : b ≠ B := by
  rintro rfl
  obtain ⟨es, ⟨es0, clock, h1, h3⟩, h2⟩ := h
  simp [World.cell?, h1] at hc
theorem map_find (k : Lit) (z : DataW Unit) : ∀ es : List (Lit × DataW Unit), Maps.has (.map es) k = true → ∃ e ∈ es, e.1 = k ∧ DataW.atKey (.map es) k z = e.2
  | [], h => by simp [Maps.has] at h
  | x :: es, h => by
    cases hx : x.1.sameKey k
    · have h2 : Maps.has (.map es) k = true := by simpa [Maps.has, hx] using h
      obtain ⟨e, e1, e2, e3⟩ := map_find k z es h2
      refine ⟨e, by simp [e1], e2, ?_⟩
      rw [← e3]
      simp [DataW.atKey, hx]
    · exact ⟨x, by simp, WideAt.sameKey_eq hx, by simp [DataW.atKey, hx]⟩
/-- 'v, ok := m[k]' -/
theorem Memo.look {w : World} {K E : TypeId} {B : Nat} {KS : List Lit} {G : Lit → Int} (h : Memo w K E B KS G) (L : Keyed Try.prog K) {T : TypeId} (ht : Try.prog.underlying T = some (.map K E)) (he : Try.prog.underlying E = some (.int .i64)) (hz : (zeroValue E).run Try.prog w = .ok (.int .i64 0) w)
    {key : Value} {kl : Lit} (hkey : keyOf Try.prog K key = some kl) : ∃ (c : Int) (ok : Bool), (Instr.lookup T (.map (some B)) key true).run Try.prog w = .ok (.tuple #[.int .i64 c, .bool ok]) w ∧ (ok = true → c = G kl) := by
  obtain ⟨es, h1, h2⟩ := h
  obtain ⟨v, ps, hr, hv⟩ := h1.look_ok L ht hz (plainElem_int he (by decide)) hkey
  obtain ⟨c, rfl, hc, hwc⟩ := plainElem_int_inv he hv
  refine ⟨c, _, hr, fun hok => ?_⟩
  obtain ⟨e, e1, e2, e3⟩ := map_find kl (.lit (.int .i64 0)) es hok
  have e4 := congrArg Prod.fst hc
  simp only at e4
  rw [e3, (h2 e e1).2, e2] at e4
  simpa using e4.symm
theorem insert_mem {x e : Lit × DataW Unit} : ∀ {l : List (Lit × DataW Unit)}, e ∈ DataW.insert x l → e = x ∨ e ∈ l
  | [], h => by simp [DataW.insert] at h; exact Or.inl h
  | y :: l, h => by
    unfold DataW.insert at h
    split at h
    · simpa using h
    · rcases List.mem_cons.1 h with rfl | h
      · exact Or.inr (by simp)
      · rcases insert_mem h with h | h
        · exact Or.inl h
        · exact Or.inr (by simp [h])
/-- 'm[k] = v' -/
theorem Memo.store {w : World} {K E : TypeId} {B : Nat} {KS : List Lit} {G : Lit → Int} (h : Memo w K E B KS G) (L : Keyed Try.prog K) {T : TypeId} (ht : Try.prog.underlying T = some (.map K E)) (he : Try.prog.underlying E = some (.int .i64)) (hn : KS.length < maxLen)
    {key : Value} {kl : Lit} (hkey : keyOf Try.prog K key = some kl) (hk : kl ∈ KS) {v : Int} (hv : v = G kl) (hwf : (Lit.int .i64 v).wf = true) :
    ∃ w', (Instr.mapUpdate T (.map (some B)) key (.int .i64 v)).run Try.prog w = .ok () w' ∧ Memo w' K E B KS G ∧ w.mapTurned w' B := by
  subst hv
  obtain ⟨es, h1, h2⟩ := h
  obtain ⟨w', hr, h3, h4⟩ := h1.store L ht hn hkey (plainElem_int he hwf)
  refine ⟨w', hr, ?_, h4⟩
  obtain ⟨es', he', hp⟩ := h3.tidy L
  rw [he'] at h3
  have hm : ∀ e ∈ es', e.1 ∈ KS ∧ e.2 = .lit (.int .i64 (G e.1)) := by
    intro e hme
    have : es' = DataW.insert (kl, .lit (.int .i64 (G kl))) (es.filter fun p => !p.1.sameKey kl) := by
      simpa [DataW.put] using he'.symm
    rw [this] at hme
    rcases insert_mem hme with rfl | hme
    · exact ⟨hk, rfl⟩
    · exact h2 e (List.mem_filter.1 hme).1
  obtain ⟨es0, clock, hb, F, hs, hD⟩ := h3
  have hsz : es0.size ≤ KS.length := by
    have e1 : es'.length = es0.size := by
      have := congrArg Maps.size hD
      simpa [Maps.size, length_sorted] using this
    rw [← e1]
    have := nodup_len (es'.map (·.1)) KS (by
      rw [List.pairwise_map]
      exact hp) fun x hx => by
        obtain ⟨e, hme, rfl⟩ := List.mem_map.1 hx
        exact (hm e hme).1
    simpa using this
  exact ⟨es', ⟨es0, clock, hb, F, hsz, hD⟩, hm⟩
/-- at the operation: '(at_lookup; refine wpList_memo_look _ rfl _ _ T rfl hM law A.underlyingT A.underlyingE (zeroE _) rfl rfl hkey ?_; intro c ok hcok)' -/
theorem wpList_memo_look (w : World) {ops : Array Oper} {rest : List Oper} {o : Oper} {a : Act} {Q : Exit → Act → World → Prop} (hg : o.guard = none) (m x : Operand) (T : TypeId) (hop : o.op = Op.lookup T m x true)
    {K E : TypeId} {B : Nat} {KS : List Lit} {G : Lit → Int} (h : Memo w K E B KS G) (L : Keyed Try.prog K) (ht : Try.prog.underlying T = some (.map K E)) (he : Try.prog.underlying E = some (.int .i64)) (hz : (zeroValue E).run Try.prog w = .ok (.int .i64 0) w)
    {key : Value} {kl : Lit} (hm : a.eval m = .map (some B)) (hx : a.eval x = key) (hkey : keyOf Try.prog K key = some kl)
    (hK : ∀ (c : Int) (ok : Bool), (ok = true → c = G kl) → wpList Try.prog ops Q rest (a.put o.dst (.tuple #[.int .i64 c, .bool ok])) w) :
    wpList Try.prog ops Q (o :: rest) a w := by
  refine wpList_plain hg fun K' hK' => ?_
  obtain ⟨c, ok, hrun, hv⟩ := h.look L ht he hz hkey
  unfold Oper.wp
  simp [execOp, hop, hm, hx, hrun, Result.andThen]
  exact hK' _ _ (hK c ok hv)
theorem wpList_memo_store (w : World) {ops : Array Oper} {rest : List Oper} {o : Oper} {a : Act} {Q : Exit → Act → World → Prop} (hg : o.guard = none) (m x v : Operand) (T : TypeId) (hop : o.op = Op.mapUpdate T m x v)
    {K E : TypeId} {B : Nat} {KS : List Lit} {G : Lit → Int} (h : Memo w K E B KS G) (L : Keyed Try.prog K) (ht : Try.prog.underlying T = some (.map K E)) (he : Try.prog.underlying E = some (.int .i64)) (hn : KS.length < maxLen)
    {key : Value} {kl : Lit} {u : Int} (hm : a.eval m = .map (some B)) (hx : a.eval x = key) (hv : a.eval v = .int .i64 u) (hkey : keyOf Try.prog K key = some kl) (hk : kl ∈ KS) (hu : u = G kl) (hwf : (Lit.int .i64 u).wf = true)
    (hK : ∀ w', Memo w' K E B KS G → w.grownBy w' (some B) → wpList Try.prog ops Q rest (a.put o.dst undef) w') :
    wpList Try.prog ops Q (o :: rest) a w := by
  refine wpList_plain hg fun K' hK' => ?_
  obtain ⟨w', hrun, r1, r2⟩ := h.store L ht he hn hkey hk hu hwf
  unfold Oper.wp
  simp [execOp, hop, hm, hx, hv, hrun, Result.andThen]
  exact hK' _ _ (hK w' r1 r2.grown)
end Go.Proofs.Ytledmebhlmpjaaa
namespace Peg
theorem sum_take_f (F : Ln → Nat) (P : Ln → Bool) (L : List Ln) (j : Nat) (h : j < L.length) : (((L.take (j + 1)).filter P).map F).sum = (((L.take j).filter P).map F).sum + if P (gD L Ln0 j) = true then F (gD L Ln0 j) else 0 := by
  rw [take_gD L Ln0 j h, List.filter_append, List.map_append, List.sum_append]
  cases hp : P (gD L Ln0 j) <;> simp [hp]
theorem sum_take_le (F : Ln → Nat) (P : Ln → Bool) (L : List Ln) (j : Nat) : (((L.take j).filter P).map F).sum ≤ ((L.filter P).map F).sum := by
  conv => rhs; rw [← List.take_append_drop j L]
  rw [List.filter_append, List.map_append, List.sum_append]
  omega
end Peg
namespace Go.Proofs.Ytledmebhlmpjaaa
open Go.ChangeShapes Go.WideShapes Go.ChangeAt Go.RowKit Peg Go.Sort
def GK : List Lit := (List.range 65536).map fun n : Nat => Lit.int .i64 n
def gk (a b o g : Int) : Lit → Int
  | .int _ p => (games a b o g p : Nat)
  | _ => 0
theorem GK_len : GK.length < maxLen := by unfold GK maxLen; rw [List.length_map, List.length_range]; omega
theorem GK_mem {p : Int} (h0 : 0 ≤ p) (h : p < 65536) : Lit.int .i64 p ∈ GK := by
  unfold GK
  refine List.mem_map.2 ⟨p.toNat, List.mem_range.2 (by omega), ?_⟩
  rw [show ((p.toNat : Nat) : Int) = p from by omega]
/-- lines that can be read -/
def LnAt (w : World) (aL : Option Addr) (L : List Ln) : Prop :=
  ∀ i, i < L.length → ∃ b, aL = some ⟨b, 0, none⟩ ∧ b < w.heap.size ∧ w.cell? ⟨b, i * 3, none⟩ = some (.int .i64 (gD L Ln0 i).f) ∧ w.cell? ⟨b, i * 3 + 1, none⟩ = some (.int .i64 (gD L Ln0 i).o) ∧ w.cell? ⟨b, i * 3 + 2, none⟩ = some (.int .i64 (gD L Ln0 i).t)
theorem LnAt.below {w w' : World} {aL : Option Addr} {L : List Ln} (h : LnAt w aL L) (hb : Below w.heap.size w w') : LnAt w' aL L := fun i hi => by
  obtain ⟨b, h1, h2, h3, h4, h5⟩ := h i hi
  exact ⟨b, h1, Nat.lt_of_lt_of_le h2 hb.size, (hb.cell h2).trans h3, (hb.cell h2).trans h4, (hb.cell h2).trans h5⟩
theorem LnAt.gro {w w' : World} {aL : Option Addr} {L : List Ln} {K E : TypeId} {B : Nat} {KS : List Lit} {G : Lit → Int} (h : LnAt w aL L) (hm : Memo w K E B KS G) (hg : w.grownBy w' (some B)) : LnAt w' aL L := fun i hi => by
  obtain ⟨b, h1, h2, h3, h4, h5⟩ := h i hi
  have hne := hm.nocell h3
  exact ⟨b, h1, Nat.lt_of_lt_of_le h2 hg.size, (gro_cell hg h2 hne).trans h3, (gro_cell hg h2 hne).trans h4, (gro_cell hg h2 hne).trans h5⟩
theorem lnN {a b o : Int} (hs : isSmall a b o = true) : (linesOf a b o).length ≤ 256 := by
  have h := linesFrom_le a b o (holesOf a b o)
  have := holesOf_length a b o
  unfold linesOf
  omega
theorem zero3 (w : World) : (zeroValue 3).run Try.prog w = .ok (.int .i64 0) w := by kernel_rfl
set_option maxHeartbeats 4000000 in
set_option maxRecDepth 100000 in
theorem count_any (a b o g : Int) (hs : isSmall a b o = true) (hg : posOk a b o g = true) (B : Nat) (aL : Option Addr) (cL : Nat) : ∀ (n : Nat) (p : Int) (w : World), pegs p = n → posOk a b o p = true →
    Memo w 3 3 B GK (gk a b o g) → LnAt w aL (linesOf a b o) →
    Calls Try.prog 61 #[.agg #[.slice aL (linesOf a b o).length cL, .int .i64 g, .int .i64 (-1), .map (some B)], .int .i64 p] w fun e w' => e = .returned (.int .i64 (games a b o g p : Nat)) ∧ Memo w' 3 3 B GK (gk a b o g) ∧ w.grownBy w' (some B) := by
  intro n
  induction n using Nat.strongRecOn with
  | _ n ih =>
  intro p w hn hp hM hL
  by_cases hpg : p = g
  · subst hpg
    have HM := Lib.hid hM
    have HG := Lib.hid (games_goal a b o p)
    clear hM hL ih hn
    go_enter Try.func61, Try.ntmps61
    go_wp2_with fail
    go_ret
    exact ⟨by simp [HG.out], HM.out.below (by (repeat' first | (with_reducible exact Below.refl _ _) | (with_reducible refine Below.alloc ?_ ?_ _) | (with_reducible refine Below.drew ?_) | (with_reducible refine Below.setCell ?_ ?_ _) | (with_reducible refine below_via (by assumption) ?_ ?_) | go_size)), gro_below (by (repeat' first | (with_reducible exact Below.refl _ _) | (with_reducible refine Below.alloc ?_ ?_ _) | (with_reducible refine Below.drew ?_) | (with_reducible refine Below.setCell ?_ ?_ _) | (with_reducible refine below_via (by assumption) ?_ ?_) | go_size))⟩
  have hpg1 : (p == g) = false := by simp [hpg]
  have hMlt := hM.lt
  have HM := Lib.hid hM
  have HLA := Lib.hid hL
  have hpl := pos_lt hp
  have hkey := Go.Maps.keyOf_int_mk (q := .i64) Try.underlying3 (a := p) (WalkArith.wf_i64 (by omega))
  clear hM hL
  go_enter Try.func61, Try.ntmps61
  go_wp2_with (first | (at_lookup; refine wpList_memo_look _ rfl _ _ 77 rfl (HM.out.below (by (repeat' first | (with_reducible exact Below.refl _ _) | (with_reducible refine Below.alloc ?_ ?_ _) | (with_reducible refine Below.drew ?_) | (with_reducible refine Below.setCell ?_ ?_ _) | (with_reducible refine below_via (by assumption) ?_ ?_) | go_size))) (Go.Maps.int_keyed Try.underlying3) Try.underlying77 Try.underlying3 (zero3 _) rfl rfl hkey ?_; intro c ok hcok) | go_in)
  · have hc := hcok (by assumption)
    go_ret
    exact ⟨by simp [hc, gk], HM.out.below (by (repeat' first | (with_reducible exact Below.refl _ _) | (with_reducible refine Below.alloc ?_ ?_ _) | (with_reducible refine Below.drew ?_) | (with_reducible refine Below.setCell ?_ ?_ _) | (with_reducible refine below_via (by assumption) ?_ ?_) | go_size)), gro_below (by (repeat' first | (with_reducible exact Below.refl _ _) | (with_reducible refine Below.alloc ?_ ?_ _) | (with_reducible refine Below.drew ?_) | (with_reducible refine Below.setCell ?_ ?_ _) | (with_reducible refine below_via (by assumption) ?_ ?_) | go_size))⟩
  obtain rfl : ok = false := by assumption
  have hN := lnN hs
  have HIH := Lib.hid ih
  have HPP := Lib.hid hp
  have HLI : Hid (∀ x ∈ linesOf a b o, LnOk x) := fun x hx => (linesOf_in hx).1
  have HST : Hid (games a b o g p = (((linesOf a b o).filter (canJ p)).map fun l => games a b o g (flip p l)).sum) := games_step hpg
  have HFT := Lib.hid (games_fits (g := g) hs hp)
  have HNX : Hid (∀ x ∈ linesOf a b o, canJ p x = true → pegs (flip p x) < n ∧ posOk a b o (flip p x) = true) := fun x hx hc => ⟨by have := pegs_jump (linesOf_in hx).1 hc; omega, posOk_flip hp hx⟩
  have HTK := Lib.hid (sum_take_f (fun l => games a b o g (flip p l)) (canJ p) (linesOf a b o))
  have HTL := Lib.hid (sum_take_le (fun l => games a b o g (flip p l)) (canJ p) (linesOf a b o))
  have hkey64 : p < 65536 := by have := pos_N hp; have := (small_N hs).2.2.2.1; omega
  clear ih hp hn hcok
  have hX : ∀ j, ((w.alloc (.cells #[.slice aL (linesOf a b o).length cL, .int .i64 g, .int .i64 (-1), .map (some B)] 79))).cell? ⟨w.heap.size, j, none⟩ = #[Value.slice aL (linesOf a b o).length cL, .int .i64 g, .int .i64 (-1), .map (some B)][j]? := fun j => by simp
  generalize linesOf a b o = L at *
  go_loopw [7, 8, 29] (fun s t i wr => ∃ (j : Nat) (y : Bool), j ≤ L.length ∧ i = .int .i64 j ∧ s = .int .i64 (((((L.take j).filter (canJ p)).map fun l => games a b o g (flip p l)).sum : Nat) : Int) ∧ t = .bool y ∧ Hid (Memo wr 3 3 B GK (gk a b o g)) ∧ Hid (LnAt wr aL L) ∧ Hid (w.grownBy wr (some B)) ∧ (∀ j, wr.cell? ⟨w.heap.size, j, none⟩ = #[Value.slice aL L.length cL, .int .i64 g, .int .i64 (-1), .map (some B)][j]?) ∧ w.heap.size < wr.heap.size) (fun _ _ i _ => L.length - (intOf i).toNat)
  case atStart => exact ⟨0, true, by omega, rfl, rfl, rfl, HM.out.below (by (repeat' first | (with_reducible exact Below.refl _ _) | (with_reducible refine Below.alloc ?_ ?_ _) | (with_reducible refine Below.drew ?_) | (with_reducible refine Below.setCell ?_ ?_ _) | (with_reducible refine below_via (by assumption) ?_ ?_) | go_size)), HLA.out.below (by (repeat' first | (with_reducible exact Below.refl _ _) | (with_reducible refine Below.alloc ?_ ?_ _) | (with_reducible refine Below.drew ?_) | (with_reducible refine Below.setCell ?_ ?_ _) | (with_reducible refine below_via (by assumption) ?_ ?_) | go_size)), gro_below (by (repeat' first | (with_reducible exact Below.refl _ _) | (with_reducible refine Below.alloc ?_ ?_ _) | (with_reducible refine Below.drew ?_) | (with_reducible refine Below.setCell ?_ ?_ _) | (with_reducible refine below_via (by assumption) ?_ ?_) | go_size)), hX, by simp⟩
  case round =>
    obtain ⟨j, y, hj, rfl, rfl, rfl, HMr, HLr, HGr, hXr, hzr⟩ := hrel
    by_cases hlt : j < L.length
    · obtain ⟨bL, hbL, hbL1, hf, ho, ht⟩ := HLr.out j hlt
      subst hbL
      have hmem := gD_mem L Ln0 j hlt
      have hln := HLI.out _ hmem
      have HT := HTK.out j hlt
      have HTl := HTL.out (j + 1)
      have HN := HNX.out _ hmem
      have HS := HST.out
      have HF := HFT.out
      have HB1 : Hid (Below wr.heap.size wr (wr.alloc (.cells #[.int .i64 (gD L Ln0 j).f, .int .i64 (gD L Ln0 j).o, .int .i64 (gD L Ln0 j).t] 47))) := (Below.refl _ _).alloc (Nat.le_refl _) _
      generalize gD L Ln0 j = x at *
      have hxt : (x.t == -1) = false := by unfold LnOk at hln; simp; omega
      have hxt2 : (x.t != -1) = true := by unfold LnOk at hln; simp; omega
      have hxt3 : ¬ x.t = -1 := by unfold LnOk at hln; omega
      by_cases hc : canJ p x = true
      · have HJF : Hid (∀ W, Calls Try.prog 40 #[.int .i64 p, .agg #[.int .i64 x.f, .int .i64 x.o, .int .i64 x.t]] W fun e w' => e = .returned (.tuple #[.int .i64 (flip p x), .bool true]) ∧ Below W.heap.size W w') := fun W => by
          have h := jumpFrom_any p x hln hpl.1 hpl.2 W
          rw [jumpTo, hc] at h
          simpa using h
        rw [hc] at HT
        simp only [if_true] at HT
        obtain ⟨N1, N2⟩ := HN hc
        have HIC := Lib.hid (fun W hM hL => HIH.out _ N1 (flip p x) W rfl N2 hM hL)
        generalize games a b o g (flip p x) = m at *
        generalize flip p x = q at *
        clear HN N1 N2
        go_wp2_with fail
        refine (HJF.out _).mono ?_
        rintro e w2 ⟨rfl, hb2⟩
        have hz2 := hb2.size
        simp only [World.size_alloc] at hz2
        have HB2 : Hid (Below wr.heap.size wr w2) := HB1.out.trans (hb2.mono (by simp))
        have hl2 : w2.cell? ⟨wr.heap.size, 2, none⟩ = some (.int .i64 x.t) := (hb2.cell (by simp)).trans (by simp)
        have hX2 : ∀ j, w2.cell? ⟨w.heap.size, j, none⟩ = #[Value.slice (some ⟨bL, 0, none⟩) L.length cL, .int .i64 g, .int .i64 (-1), .map (some B)][j]? := fun j => (HB2.out.cell hzr).trans (hXr j)
        have HM2 := Lib.hid (HMr.out.below HB2.out)
        have HL2 := Lib.hid (HLr.out.below HB2.out)
        have HG2 := Lib.hid (gro_via HGr.out HB2.out)
        have hwX : w.heap.size ≠ B := by omega
        have hz3 : w.heap.size < w2.heap.size := by omega
        clear hb2 hf ho ht hXr hX HB1 HB2
        have hmf : (m : Int) ≤ 9000000000000000000 := by rw [HS] at HF; rw [HT] at HTl; omega
        have hsf : (((((L.take j).filter (canJ p)).map fun l => games a b o g (flip p l)).sum : Nat) : Int) + m ≤ 9000000000000000000 := by rw [HS] at HF; rw [HT] at HTl; omega
        clear HS HF HTl
        generalize (((L.take j).filter (canJ p)).map fun l => games a b o g (flip p l)).sum = s at *
        have hw64 : wrap64 ((s : Int) + m) = (s : Int) + m := IntWalk.wrap64_in _ (by omega)
        go_wp2_with fail
        refine (HIC.out w2 HM2.out HL2.out).mono ?_
        rintro e w3 ⟨rfl, HM3, HG3⟩
        have HL3 := Lib.hid (HL2.out.gro HM2.out HG3)
        have hX3 : ∀ j, w3.cell? ⟨w.heap.size, j, none⟩ = #[Value.slice (some ⟨bL, 0, none⟩) L.length cL, .int .i64 g, .int .i64 (-1), .map (some B)][j]? := fun j => (gro_cell HG3 hz3 hwX).trans (hX2 j)
        have HG4 := Lib.hid (gro_trans HG2.out HG3)
        have hz4 : w.heap.size < w3.heap.size := by have := HG3.size; omega
        have HM4 := Lib.hid HM3
        clear HG3 HM3 hX2
        go_wp2_with fail
        go_roundw
        case rel => exact ⟨j + 1, false, by omega, by go_num, by rw [HT]; simp [hw64], rfl, HM4, HL3, HG4, hX3, hz4⟩
        case measure => simp [intOf]; omega
      · have hcf : canJ p x = false := by simpa using hc
        have HJF : Hid (∀ W, Calls Try.prog 40 #[.int .i64 p, .agg #[.int .i64 x.f, .int .i64 x.o, .int .i64 x.t]] W fun e w' => e = .returned (.tuple #[.int .i64 p, .bool false]) ∧ Below W.heap.size W w') := fun W => by
          have h := jumpFrom_any p x hln hpl.1 hpl.2 W
          rw [jumpTo, hcf] at h
          simpa using h
        rw [hcf] at HT
        simp only [Bool.false_eq_true, if_false, Nat.add_zero] at HT
        clear HN HS HF HTl
        generalize (((L.take j).filter (canJ p)).map fun l => games a b o g (flip p l)).sum = s at *
        go_wp2_with fail
        refine (HJF.out _).mono ?_
        rintro e w2 ⟨rfl, hb2⟩
        have hz2 := hb2.size
        simp only [World.size_alloc] at hz2
        have HB2 : Hid (Below wr.heap.size wr w2) := HB1.out.trans (hb2.mono (by simp))
        have hX2 : ∀ j, w2.cell? ⟨w.heap.size, j, none⟩ = #[Value.slice (some ⟨bL, 0, none⟩) L.length cL, .int .i64 g, .int .i64 (-1), .map (some B)][j]? := fun j => (HB2.out.cell hzr).trans (hXr j)
        have HM2 := Lib.hid (HMr.out.below HB2.out)
        have HL2 := Lib.hid (HLr.out.below HB2.out)
        have HG2 := Lib.hid (gro_via HGr.out HB2.out)
        have hz3 : w.heap.size < w2.heap.size := by omega
        clear hb2 hf ho ht hXr hX HB1 HB2
        go_wp2_with fail
        go_roundw
        case rel => exact ⟨j + 1, y, by omega, by go_num, by rw [HT], rfl, HM2, HL2, HG2, hX2, hz3⟩
        case measure => simp [intOf]; omega
    · obtain rfl : j = L.length := by omega
      have hg0 : decide (g < 0) = false := decide_eq_false (by have := pos_lt hg; omega)
      have HS := HST.out
      have HF := HFT.out
      rw [List.take_length]
      have hu : (((((L.filter (canJ p)).map fun l => games a b o g (flip p l)).sum : Nat) : Int)) = gk a b o g (.int .i64 p) := by rw [← HS]; rfl
      have hwf : (Lit.int .i64 (((((L.filter (canJ p)).map fun l => games a b o g (flip p l)).sum : Nat) : Int))).wf = true := WalkArith.wf_i64 (by rw [← HS]; omega)
      have HSS := Lib.hid HS
      have HU := Lib.hid hu
      clear HS HF hu
      generalize ((L.filter (canJ p)).map fun l => games a b o g (flip p l)).sum = m at *
      cases y
      all_goals go_wp2_with (first | (at_mapUpdate; refine wpList_memo_store _ rfl _ _ _ 77 rfl HMr.out (Go.Maps.int_keyed Try.underlying3) Try.underlying77 Try.underlying3 GK_len rfl rfl rfl hkey (GK_mem hpl.1 hkey64) HU.out hwf ?_; intro w5 HM5 HG5) | go_in)
      all_goals go_ret
      all_goals exact ⟨by rw [HSS.out]; rfl, HM5, gro_trans HGr.out HG5⟩
end Go.Proofs.Ytledmebhlmpjaaa
namespace Peg
def countGames (a b o p g : Int) : Nat := if isSmall a b o = true then if posOk a b o p = true then if posOk a b o g = true then games a b o g p else 0 else 0 else 0
end Peg
namespace Go.Proofs.Ytledmebhlmpjaaa
open Go.ChangeShapes Go.WideShapes Go.ChangeAt Go.RowKit Peg Go.Sort
def RetCounter (w : World) (a b o g : Int) (e : Ending) (w' : World) : Prop :=
  ∃ aL cL B, e = .returned (.agg #[.slice aL (linesOf a b o).length cL, .int .i64 g, .int .i64 (-1), .map (some B)]) ∧ Memo w' 3 3 B GK (gk a b o g) ∧ LnAt w' aL (linesOf a b o) ∧ w.heap.size ≤ B ∧ Below w.heap.size w w'
set_option maxHeartbeats 1000000 in
set_option maxRecDepth 100000 in
theorem counterOf_any (a b o g : Int) (w : World) :
    Calls Try.prog 60 #[.agg #[.int .i64 a, .int .i64 b, .int .i64 o], .int .i64 g, .int .i64 (-1)] w (RetCounter w a b o g) := by
  have hmm := @run_makeMap Try.prog
  have HLN : Hid (∀ W, Calls Try.prog 36 #[.agg #[.int .i64 a, .int .i64 b, .int .i64 o]] W (RetLines W (linesOf a b o))) := fun W => LinesOf_any a b o W
  unfold RetCounter
  go_enter Try.func60, Try.ntmps60
  go_wp2_with fail
  refine (HLN.out _).mono ?_
  rintro e w2 ⟨v, rfl, hown, hb⟩
  have hz2 := hb.size
  simp only [World.size_alloc] at hz2
  have HB2 : Hid (Below w.heap.size w w2) := (((Below.refl w.heap.size w).alloc (Nat.le_refl _) (.cells #[.int .i64 a, .int .i64 b, .int .i64 o] 27)).alloc (by simp) (.cells #[.slice none 0 0, .int .i64 0, .int .i64 0, .map none] 79)).trans (hb.mono (by simp; omega))
  have hz3 : w.heap.size + 1 < w2.heap.size := by omega
  obtain ⟨aL, cL, rfl, hln, hget⟩ := hown.lineG
  have HGL := Lib.hid hget
  have hC : ∀ j, w2.cell? ⟨w.heap.size + 1, j, none⟩ = #[Value.slice none 0 0, .int .i64 0, .int .i64 0, .map none][j]? := fun j => (hb.cell (by simp)).trans (by simp)
  have hF : ∀ j, w2.frozen? ⟨w.heap.size + 1, j, none⟩ = false := fun j => (hb.frozen (by simp)).trans (by simp)
  clear hb hown hget
  go_wp2_with fail
  (try simp only [Exit.inBlock, Exit.then])
  refine bodyPost_ret (v := .agg #[.slice aL (linesOf a b o).length cL, .int .i64 g, .int .i64 (-1), .map (some w2.heap.size)]) (by simp [results, Try.results60, go_sem, *]) rfl ?_
  refine ⟨aL, cL, w2.heap.size, rfl, ?_, ?_, by omega, ?_⟩
  · simpa using Memo.made (((((w2.setCell ⟨w.heap.size + 1, 0, none⟩ (.slice aL (linesOf a b o).length cL)).setCell ⟨w.heap.size + 1, 1, none⟩ (.int .i64 g)).setCell ⟨w.heap.size + 1, 2, none⟩ (.int .i64 (-1))).setCell ⟨w.heap.size + 1, 3, none⟩ (.map (some w2.heap.size)))) 3 3 GK (gk a b o g)
  · intro i hi
    obtain ⟨bL, h1, h2, h3, h4, h5, h6⟩ := HGL.out i hi
    simp only [World.size_alloc] at h2
    have hne : bL ≠ w.heap.size + 1 := by omega
    have hne2 : w.heap.size + 1 ≠ bL := by omega
    exact ⟨bL, h1, by simp; omega, by simpa [go_sem, hne, hne2, h3] using h4, by simpa [go_sem, hne, hne2, h3] using h5, by simpa [go_sem, hne, hne2, h3] using h6⟩
  · refine Below.alloc ?_ (by simp; omega) _
    exact ((((HB2.out.setCell (by simp) _).setCell (by simp) _).setCell (by simp) _).setCell (by simp) _)
set_option maxHeartbeats 1000000 in
set_option maxRecDepth 100000 in
theorem CountGames_any (a b o p g : Int) (hp9 : p ≤ 9223372036854775807) (hg9 : g ≤ 9223372036854775807) (w : World) :
    Calls Try.prog 30 #[.agg #[.int .i64 a, .int .i64 b, .int .i64 o], .int .i64 p, .int .i64 g] w fun e w' => e = .returned (.int .i64 (countGames a b o p g : Nat)) ∧ Below w.heap.size w w' := by
  have HS : Hid (∀ W, Calls Try.prog 46 #[.agg #[.int .i64 a, .int .i64 b, .int .i64 o]] W fun e w' => e = .returned (.bool (isSmall a b o)) ∧ Below W.heap.size W w') := fun W => IsSmall_any a b o W
  have HP : Hid (∀ W, Calls Try.prog 47 #[.agg #[.int .i64 a, .int .i64 b, .int .i64 o], .int .i64 p] W fun e w' => e = .returned (.bool (posOk a b o p)) ∧ Below W.heap.size W w') := fun W => PositionOk_any a b o p hp9 W
  have HG : Hid (∀ W, Calls Try.prog 47 #[.agg #[.int .i64 a, .int .i64 b, .int .i64 o], .int .i64 g] W fun e w' => e = .returned (.bool (posOk a b o g)) ∧ Below W.heap.size W w') := fun W => PositionOk_any a b o g hg9 W
  by_cases hok : isSmall a b o = true ∧ posOk a b o p = true ∧ posOk a b o g = true
  · obtain ⟨h1, h2, h3⟩ := hok
    have HV : Hid (countGames a b o p g = games a b o g p) := by show _ = _; simp [countGames, h1, h2, h3]
    have HC : Hid (∀ W, Calls Try.prog 60 #[.agg #[.int .i64 a, .int .i64 b, .int .i64 o], .int .i64 g, .int .i64 (-1)] W (RetCounter W a b o g)) := fun W => counterOf_any a b o g W
    have HN : Hid (∀ B aL cL W, Memo W 3 3 B GK (gk a b o g) → LnAt W aL (linesOf a b o) → Calls Try.prog 61 #[.agg #[.slice aL (linesOf a b o).length cL, .int .i64 g, .int .i64 (-1), .map (some B)], .int .i64 p] W fun e w' => e = .returned (.int .i64 (games a b o g p : Nat)) ∧ Memo w' 3 3 B GK (gk a b o g) ∧ W.grownBy w' (some B)) := fun B aL cL W hM hL => count_any a b o g h1 h3 B aL cL _ p W rfl h2 hM hL
    rw [HV.out]
    rw [h1] at HS
    rw [h2] at HP
    rw [h3] at HG
    clear HV h1 h2 h3
    generalize games a b o g p = m at *
    go_enter Try.func30, Try.ntmps30
    go_wp2_with (first | (go_at_call 46; refine (HS.out _).mono ?_; rintro e w' ⟨rfl, hb⟩; obtain ⟨hc, hf, hz, hy⟩ := bcell hb; clear hy; (try simp only [World.size_alloc, World.size_setCell, World.size_drew] at hz); (try have gQ0 : w.heap.size < w'.heap.size := by omega); (try have gQ1 : w.heap.size + 1 < w'.heap.size := by omega); (try have gQ2 : w.heap.size + 1 + 1 < w'.heap.size := by omega); (try have gQ3 : w.heap.size + 1 + 1 + 1 < w'.heap.size := by omega); (try have gQ4 : w.heap.size + 1 + 1 + 1 + 1 < w'.heap.size := by omega); (try have gQ5 : w.heap.size + 1 + 1 + 1 + 1 + 1 < w'.heap.size := by omega); (try have dQ0 : _ < w'.heap.size := Nat.lt_of_lt_of_le dQ0 (by omega)); (try have dQ1 : _ < w'.heap.size := Nat.lt_of_lt_of_le dQ1 (by omega)); (try have dQ2 : _ < w'.heap.size := Nat.lt_of_lt_of_le dQ2 (by omega)); (try have dQ3 : _ < w'.heap.size := Nat.lt_of_lt_of_le dQ3 (by omega)); (try have dQ4 : _ < w'.heap.size := Nat.lt_of_lt_of_le dQ4 (by omega)); (try have dQ5 : _ < w'.heap.size := Nat.lt_of_lt_of_le dQ5 (by omega)); (try (have hnQ := Nat.lt_of_succ_le hz; first | (have _x := dQ0; first | (have _x := dQ1; first | (have _x := dQ2; first | (have _x := dQ3; first | (have _x := dQ4; have dQ5 := hnQ) | have dQ4 := hnQ) | have dQ3 := hnQ) | have dQ2 := hnQ) | have dQ1 := hnQ) | have dQ0 := hnQ)); (try (have hmQ := Nat.lt_of_succ_lt (Nat.lt_of_succ_le hz); first | (have _x := dQ0; first | (have _x := dQ1; first | (have _x := dQ2; first | (have _x := dQ3; first | (have _x := dQ4; have dQ5 := hmQ) | have dQ4 := hmQ) | have dQ3 := hmQ) | have dQ2 := hmQ) | have dQ1 := hmQ) | have dQ0 := hmQ))) | (go_at_call 47; first | (with_reducible refine (HP.out _).mono ?_; rintro e w' ⟨rfl, hb⟩; obtain ⟨hc, hf, hz, hy⟩ := bcell hb; clear hy; (try simp only [World.size_alloc, World.size_setCell, World.size_drew] at hz); (try have gQ0 : w.heap.size < w'.heap.size := by omega); (try have gQ1 : w.heap.size + 1 < w'.heap.size := by omega); (try have gQ2 : w.heap.size + 1 + 1 < w'.heap.size := by omega); (try have gQ3 : w.heap.size + 1 + 1 + 1 < w'.heap.size := by omega); (try have gQ4 : w.heap.size + 1 + 1 + 1 + 1 < w'.heap.size := by omega); (try have gQ5 : w.heap.size + 1 + 1 + 1 + 1 + 1 < w'.heap.size := by omega); (try have dQ0 : _ < w'.heap.size := Nat.lt_of_lt_of_le dQ0 (by omega)); (try have dQ1 : _ < w'.heap.size := Nat.lt_of_lt_of_le dQ1 (by omega)); (try have dQ2 : _ < w'.heap.size := Nat.lt_of_lt_of_le dQ2 (by omega)); (try have dQ3 : _ < w'.heap.size := Nat.lt_of_lt_of_le dQ3 (by omega)); (try have dQ4 : _ < w'.heap.size := Nat.lt_of_lt_of_le dQ4 (by omega)); (try have dQ5 : _ < w'.heap.size := Nat.lt_of_lt_of_le dQ5 (by omega)); (try (have hnQ := Nat.lt_of_succ_le hz; first | (have _x := dQ0; first | (have _x := dQ1; first | (have _x := dQ2; first | (have _x := dQ3; first | (have _x := dQ4; have dQ5 := hnQ) | have dQ4 := hnQ) | have dQ3 := hnQ) | have dQ2 := hnQ) | have dQ1 := hnQ) | have dQ0 := hnQ)); (try (have hmQ := Nat.lt_of_succ_lt (Nat.lt_of_succ_le hz); first | (have _x := dQ0; first | (have _x := dQ1; first | (have _x := dQ2; first | (have _x := dQ3; first | (have _x := dQ4; have dQ5 := hmQ) | have dQ4 := hmQ) | have dQ3 := hmQ) | have dQ2 := hmQ) | have dQ1 := hmQ) | have dQ0 := hmQ))) | (with_reducible refine (HG.out _).mono ?_; rintro e w' ⟨rfl, hb⟩; obtain ⟨hc, hf, hz, hy⟩ := bcell hb; clear hy; (try simp only [World.size_alloc, World.size_setCell, World.size_drew] at hz); (try have gQ0 : w.heap.size < w'.heap.size := by omega); (try have gQ1 : w.heap.size + 1 < w'.heap.size := by omega); (try have gQ2 : w.heap.size + 1 + 1 < w'.heap.size := by omega); (try have gQ3 : w.heap.size + 1 + 1 + 1 < w'.heap.size := by omega); (try have gQ4 : w.heap.size + 1 + 1 + 1 + 1 < w'.heap.size := by omega); (try have gQ5 : w.heap.size + 1 + 1 + 1 + 1 + 1 < w'.heap.size := by omega); (try have dQ0 : _ < w'.heap.size := Nat.lt_of_lt_of_le dQ0 (by omega)); (try have dQ1 : _ < w'.heap.size := Nat.lt_of_lt_of_le dQ1 (by omega)); (try have dQ2 : _ < w'.heap.size := Nat.lt_of_lt_of_le dQ2 (by omega)); (try have dQ3 : _ < w'.heap.size := Nat.lt_of_lt_of_le dQ3 (by omega)); (try have dQ4 : _ < w'.heap.size := Nat.lt_of_lt_of_le dQ4 (by omega)); (try have dQ5 : _ < w'.heap.size := Nat.lt_of_lt_of_le dQ5 (by omega)); (try (have hnQ := Nat.lt_of_succ_le hz; first | (have _x := dQ0; first | (have _x := dQ1; first | (have _x := dQ2; first | (have _x := dQ3; first | (have _x := dQ4; have dQ5 := hnQ) | have dQ4 := hnQ) | have dQ3 := hnQ) | have dQ2 := hnQ) | have dQ1 := hnQ) | have dQ0 := hnQ)); (try (have hmQ := Nat.lt_of_succ_lt (Nat.lt_of_succ_le hz); first | (have _x := dQ0; first | (have _x := dQ1; first | (have _x := dQ2; first | (have _x := dQ3; first | (have _x := dQ4; have dQ5 := hmQ) | have dQ4 := hmQ) | have dQ3 := hmQ) | have dQ2 := hmQ) | have dQ1 := hmQ) | have dQ0 := hmQ)))))
    have HB5 := Lib.hid (show Below w.heap.size w w' by (repeat' first | (with_reducible exact Below.refl _ _) | (with_reducible refine Below.alloc ?_ ?_ _) | (with_reducible refine Below.drew ?_) | (with_reducible refine Below.setCell ?_ ?_ _) | (with_reducible refine below_via (by assumption) ?_ ?_) | go_size))
    obtain ⟨w5, rfl⟩ : ∃ w5 : World, w5 = w' := ⟨_, rfl⟩
    refine (HC.out _).mono ?_
    rintro e w6 ⟨aL, cL, B, rfl, HM, HL, hB, hb6⟩
    have HB6 := Lib.hid (HB5.out.trans (hb6.mono HB5.out.size))
    have hB5 := HB5.out.size
    have HM := Lib.hid HM
    have HL := Lib.hid HL
    clear hb6
    go_wp2_with fail
    refine (HN.out B aL cL w6 HM.out HL.out).mono ?_
    rintro e w7 ⟨rfl, -, HG7⟩
    have HB7 := Lib.hid (HB6.out.trans ((below_gro (Nat.le_of_lt HM.out.lt) HG7).mono (Nat.le_trans hB5 hB)))
    clear HG7
    go_wp2_with fail
    go_ret
    exact ⟨rfl, HB7.out⟩
  · have HV : Hid (countGames a b o p g = 0) := by
      show _ = _
      unfold countGames
      cases h1 : isSmall a b o <;> cases h2 : posOk a b o p <;> cases h3 : posOk a b o g <;> simp_all
    rw [HV.out]
    clear HV
    generalize isSmall a b o = x at *
    generalize posOk a b o p = y at *
    generalize posOk a b o g = z at *
    cases x <;> cases y <;> cases z
    all_goals first | (exfalso; exact hok ⟨rfl, rfl, rfl⟩) | skip
    all_goals
      go_enter Try.func30, Try.ntmps30
      go_wp2_with (first | (go_at_call 46; refine (HS.out _).mono ?_; rintro e w' ⟨rfl, hb⟩; obtain ⟨hc, hf, hz, hy⟩ := bcell hb; clear hy; (try simp only [World.size_alloc, World.size_setCell, World.size_drew] at hz); (try have gQ0 : w.heap.size < w'.heap.size := by omega); (try have gQ1 : w.heap.size + 1 < w'.heap.size := by omega); (try have gQ2 : w.heap.size + 1 + 1 < w'.heap.size := by omega); (try have gQ3 : w.heap.size + 1 + 1 + 1 < w'.heap.size := by omega); (try have gQ4 : w.heap.size + 1 + 1 + 1 + 1 < w'.heap.size := by omega); (try have gQ5 : w.heap.size + 1 + 1 + 1 + 1 + 1 < w'.heap.size := by omega); (try have dQ0 : _ < w'.heap.size := Nat.lt_of_lt_of_le dQ0 (by omega)); (try have dQ1 : _ < w'.heap.size := Nat.lt_of_lt_of_le dQ1 (by omega)); (try have dQ2 : _ < w'.heap.size := Nat.lt_of_lt_of_le dQ2 (by omega)); (try have dQ3 : _ < w'.heap.size := Nat.lt_of_lt_of_le dQ3 (by omega)); (try have dQ4 : _ < w'.heap.size := Nat.lt_of_lt_of_le dQ4 (by omega)); (try have dQ5 : _ < w'.heap.size := Nat.lt_of_lt_of_le dQ5 (by omega)); (try (have hnQ := Nat.lt_of_succ_le hz; first | (have _x := dQ0; first | (have _x := dQ1; first | (have _x := dQ2; first | (have _x := dQ3; first | (have _x := dQ4; have dQ5 := hnQ) | have dQ4 := hnQ) | have dQ3 := hnQ) | have dQ2 := hnQ) | have dQ1 := hnQ) | have dQ0 := hnQ)); (try (have hmQ := Nat.lt_of_succ_lt (Nat.lt_of_succ_le hz); first | (have _x := dQ0; first | (have _x := dQ1; first | (have _x := dQ2; first | (have _x := dQ3; first | (have _x := dQ4; have dQ5 := hmQ) | have dQ4 := hmQ) | have dQ3 := hmQ) | have dQ2 := hmQ) | have dQ1 := hmQ) | have dQ0 := hmQ))) | (go_at_call 47; first | (with_reducible refine (HP.out _).mono ?_; rintro e w' ⟨rfl, hb⟩; obtain ⟨hc, hf, hz, hy⟩ := bcell hb; clear hy; (try simp only [World.size_alloc, World.size_setCell, World.size_drew] at hz); (try have gQ0 : w.heap.size < w'.heap.size := by omega); (try have gQ1 : w.heap.size + 1 < w'.heap.size := by omega); (try have gQ2 : w.heap.size + 1 + 1 < w'.heap.size := by omega); (try have gQ3 : w.heap.size + 1 + 1 + 1 < w'.heap.size := by omega); (try have gQ4 : w.heap.size + 1 + 1 + 1 + 1 < w'.heap.size := by omega); (try have gQ5 : w.heap.size + 1 + 1 + 1 + 1 + 1 < w'.heap.size := by omega); (try have dQ0 : _ < w'.heap.size := Nat.lt_of_lt_of_le dQ0 (by omega)); (try have dQ1 : _ < w'.heap.size := Nat.lt_of_lt_of_le dQ1 (by omega)); (try have dQ2 : _ < w'.heap.size := Nat.lt_of_lt_of_le dQ2 (by omega)); (try have dQ3 : _ < w'.heap.size := Nat.lt_of_lt_of_le dQ3 (by omega)); (try have dQ4 : _ < w'.heap.size := Nat.lt_of_lt_of_le dQ4 (by omega)); (try have dQ5 : _ < w'.heap.size := Nat.lt_of_lt_of_le dQ5 (by omega)); (try (have hnQ := Nat.lt_of_succ_le hz; first | (have _x := dQ0; first | (have _x := dQ1; first | (have _x := dQ2; first | (have _x := dQ3; first | (have _x := dQ4; have dQ5 := hnQ) | have dQ4 := hnQ) | have dQ3 := hnQ) | have dQ2 := hnQ) | have dQ1 := hnQ) | have dQ0 := hnQ)); (try (have hmQ := Nat.lt_of_succ_lt (Nat.lt_of_succ_le hz); first | (have _x := dQ0; first | (have _x := dQ1; first | (have _x := dQ2; first | (have _x := dQ3; first | (have _x := dQ4; have dQ5 := hmQ) | have dQ4 := hmQ) | have dQ3 := hmQ) | have dQ2 := hmQ) | have dQ1 := hmQ) | have dQ0 := hmQ))) | (with_reducible refine (HG.out _).mono ?_; rintro e w' ⟨rfl, hb⟩; obtain ⟨hc, hf, hz, hy⟩ := bcell hb; clear hy; (try simp only [World.size_alloc, World.size_setCell, World.size_drew] at hz); (try have gQ0 : w.heap.size < w'.heap.size := by omega); (try have gQ1 : w.heap.size + 1 < w'.heap.size := by omega); (try have gQ2 : w.heap.size + 1 + 1 < w'.heap.size := by omega); (try have gQ3 : w.heap.size + 1 + 1 + 1 < w'.heap.size := by omega); (try have gQ4 : w.heap.size + 1 + 1 + 1 + 1 < w'.heap.size := by omega); (try have gQ5 : w.heap.size + 1 + 1 + 1 + 1 + 1 < w'.heap.size := by omega); (try have dQ0 : _ < w'.heap.size := Nat.lt_of_lt_of_le dQ0 (by omega)); (try have dQ1 : _ < w'.heap.size := Nat.lt_of_lt_of_le dQ1 (by omega)); (try have dQ2 : _ < w'.heap.size := Nat.lt_of_lt_of_le dQ2 (by omega)); (try have dQ3 : _ < w'.heap.size := Nat.lt_of_lt_of_le dQ3 (by omega)); (try have dQ4 : _ < w'.heap.size := Nat.lt_of_lt_of_le dQ4 (by omega)); (try have dQ5 : _ < w'.heap.size := Nat.lt_of_lt_of_le dQ5 (by omega)); (try (have hnQ := Nat.lt_of_succ_le hz; first | (have _x := dQ0; first | (have _x := dQ1; first | (have _x := dQ2; first | (have _x := dQ3; first | (have _x := dQ4; have dQ5 := hnQ) | have dQ4 := hnQ) | have dQ3 := hnQ) | have dQ2 := hnQ) | have dQ1 := hnQ) | have dQ0 := hnQ)); (try (have hmQ := Nat.lt_of_succ_lt (Nat.lt_of_succ_le hz); first | (have _x := dQ0; first | (have _x := dQ1; first | (have _x := dQ2; first | (have _x := dQ3; first | (have _x := dQ4; have dQ5 := hmQ) | have dQ4 := hmQ) | have dQ3 := hmQ) | have dQ2 := hmQ) | have dQ1 := hmQ) | have dQ0 := hmQ)))))
      all_goals go_ret
      all_goals exact ⟨rfl, by (repeat' first | (with_reducible exact Below.refl _ _) | (with_reducible refine Below.alloc ?_ ?_ _) | (with_reducible refine Below.drew ?_) | (with_reducible refine Below.setCell ?_ ?_ _) | (with_reducible refine below_via (by assumption) ?_ ?_) | go_size)⟩
end Go.Proofs.Ytledmebhlmpjaaa
