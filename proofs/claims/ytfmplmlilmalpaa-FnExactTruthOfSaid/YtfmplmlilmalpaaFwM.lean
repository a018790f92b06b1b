/- FwM: contracts of the finder of the fewest sweeps: cost, fewest (a memo map), sweeperOf, FewestSweeps. Conditions: the map's and the slices' form, numbers in range. -/
import Derived.Test.YtfmplmlilmalpaaCountG
import Derived.Test.YtfmplmlilmalpaaFewest0
import Derived.Test.YtfmplmlilmalpaaReach
import Derived.DeepKeys4
import Derived.Carry
set_option linter.unusedVariables false
set_option linter.unusedSimpArgs false
namespace Go.Proofs.Ytfmplmlilmalpaa
open Go.ChangeShapes Go.WideShapes Go.ChangeAt Go.RowKit Peg Go.Sort
def KL (p t : Int) : Lit := .string (keyBytes [.int .i64 p, .int .i64 t])
def K2 : List Lit := (List.range 65536).flatMap fun n : Nat => (List.range 51).map fun t : Nat => KL n ((t : Int) - 1)
theorem K2_len : K2.length < maxLen := by
  have key : ∀ (l : List Nat), (l.flatMap fun n : Nat => (List.range 51).map fun t : Nat => KL n ((t : Int) - 1)).length = 51 * l.length := by
    intro l
    induction l with
    | nil => rfl
    | cons x l ih => rw [List.flatMap_cons, List.length_append, ih, List.length_map, List.length_range, List.length_cons]; omega
  unfold K2 maxLen
  rw [key, List.length_range]
  omega
theorem K2_mem {p t : Int} (h0 : 0 ≤ p) (h : p < 65536) (t0 : -1 ≤ t) (t1 : t < 50) : KL p t ∈ K2 := by
  unfold K2
  refine List.mem_flatMap.2 ⟨p.toNat, List.mem_range.2 (by omega), List.mem_map.2 ⟨(t + 1).toNat, List.mem_range.2 (by omega), ?_⟩⟩
  rw [show ((p.toNat : Nat) : Int) = p from by omega, show (((t + 1).toNat : Nat) : Int) - 1 = t from by omega]
-- type 86
theorem key_of {p t : Int} (hp : (Lit.int .i64 p).wf = true) (ht : (Lit.int .i64 t).wf = true) : keyOf Try.prog 86 (.agg #[.int .i64 p, .int .i64 t]) = some (KL p t) := by
  have hk : Try.prog.keyType 86 = true := by kernel_rfl
  have hc : Try.prog.cellsOf 86 = 2 := by kernel_rfl
  have hc1 : Try.prog.cellsOf 3 = 1 := by kernel_rfl
  have hf : (Value.agg #[Value.int .i64 p, Value.int .i64 t]).formed Try.prog 86 = true := by
    simp [Value.formed, Try.underlying86, hc]
  have hd0 : 0 < Try.prog.types.size := by decide +kernel
  obtain ⟨d, hd⟩ : ∃ d, Try.prog.types.size = d + 1 := ⟨Try.prog.types.size - 1, by omega⟩
  unfold keyOf
  rw [Try.underlying86]
  simp only [hk, hf, Bool.and_self, if_true]
  unfold Program.keyLits
  rw [Try.underlying86]
  simp [Value.cells, hc, hc1, hd, Program.keyLits, Try.underlying3, List.range_succ, hp, ht, KL]
theorem law2 : Go.Maps.Keyed Try.prog 86 :=
  Go.Maps.Keyed.of_law (deep_law_laid (by decide +kernel) (m := 3) (by decide) (by decide +kernel) (by decide +kernel) (by rw [Try.underlying86]))
noncomputable def fk (a b o g : Int) (l : Lit) : Int :=
  let x := Classical.epsilon (fun x : Int × Int => keyOf Try.prog 86 (.agg #[.int .i64 x.1, .int .i64 x.2]) = some l)
  fewest a b o g x.1 x.2
theorem fk_at (a b o g : Int) {p t : Int} (hp : (Lit.int .i64 p).wf = true) (ht : (Lit.int .i64 t).wf = true) : fk a b o g (KL p t) = fewest a b o g p t := by
  have h := Classical.epsilon_spec (p := fun x : Int × Int => keyOf Try.prog 86 (.agg #[.int .i64 x.1, .int .i64 x.2]) = some (KL p t)) ⟨(p, t), key_of hp ht⟩
  have h2 := law2.inj h (key_of hp ht)
  unfold fk
  simp only at h2 ⊢
  generalize Classical.epsilon (fun x : Int × Int => keyOf Try.prog 86 (.agg #[.int .i64 x.1, .int .i64 x.2]) = some (KL p t)) = x at *
  simp at h2
  rw [h2.1, h2.2]
theorem Own.nomap {w w' : World} {K E : TypeId} {B base : Nat} {KS : List Lit} {G : Lit → Int} {v : Value} {l : List Bool} (h : Own EBool w base v l) (hm : Memo w K E B KS G) (hg : w.grownBy w' (some B)) : Own EBool w' base v l := by
  rcases h with h | h
  · exact .inl h
  rcases h.2 with ⟨hv, hn⟩ | ⟨g, cap, cur, hv, hb, hh, r⟩
  · exact .inr ⟨h.1, .inl ⟨hv, hn⟩⟩
  · refine Own.grown (.inr h) hg (.inl ?_)
    rw [hv]
    intro e
    simp only [Value.ownBlock, Option.some.injEq] at e
    subst e
    obtain ⟨es, ⟨es0, clock, h1, h3⟩, h2⟩ := hm
    rw [h1] at hh
    cases hh
/-- the sweeper's memory -/
def Sw (W : World) (a b o g : Int) (aL aB : Option Addr) (cB B : Nat) : Prop :=
  Memo W 86 3 B K2 (fk a b o g) ∧ LnAt W aL (linesOf a b o) ∧ ∃ base, Own EBool W base (.slice aB (spreadOf a b o g true).length cB) (spreadOf a b o g true)
theorem Sw.below {W W' : World} {a b o g : Int} {aL aB : Option Addr} {cB B : Nat} (h : Sw W a b o g aL aB cB B) (hb : Below W.heap.size W W') : Sw W' a b o g aL aB cB B := by
  obtain ⟨h1, h2, base, h3⟩ := h
  exact ⟨h1.below hb, h2.below hb, base, h3.keep hb⟩
theorem Sw.gro {W W' : World} {a b o g : Int} {aL aB : Option Addr} {cB B : Nat} (h : Sw W a b o g aL aB cB B) (hm : Memo W' 86 3 B K2 (fk a b o g)) (hg : W.grownBy W' (some B)) : Sw W' a b o g aL aB cB B := by
  obtain ⟨h1, h2, base, h3⟩ := h
  exact ⟨hm, h2.gro h1 hg, base, h3.nomap h1 hg⟩
def costOf (a b o g p last : Int) (l : Ln) : Int := if onTo a b o g p l = true then fewest a b o g (flip p l) l.t + (if l.f = last then 0 else 1) else -1
set_option maxHeartbeats 2000000 in
set_option maxRecDepth 100000 in
theorem cost_any (a b o g p last : Int) (l : Ln) (aL aB : Option Addr) (cL cB B : Nat) (hl : LnOk l) (hp0 : 0 ≤ p) (hp1 : p < 562949953421312)
    (hbd : onTo a b o g p l = true → 0 ≤ fewest a b o g (flip p l) l.t ∧ fewest a b o g (flip p l) l.t ≤ 49)
    (HF : onTo a b o g p l = true → ∀ W, Sw W a b o g aL aB cB B → Calls Try.prog 44 #[.agg #[.slice aL (linesOf a b o).length cL, .slice aB (spreadOf a b o g true).length cB, .int .i64 g, .map (some B)], .int .i64 (flip p l), .int .i64 l.t] W fun e w' => e = .returned (.int .i64 (fewest a b o g (flip p l) l.t)) ∧ Sw w' a b o g aL aB cB B ∧ W.grownBy w' (some B))
    (w : World) (HS : Sw w a b o g aL aB cB B) :
    Calls Try.prog 58 #[.agg #[.slice aL (linesOf a b o).length cL, .slice aB (spreadOf a b o g true).length cB, .int .i64 g, .map (some B)], .int .i64 p, .int .i64 last, .agg #[.int .i64 l.f, .int .i64 l.o, .int .i64 l.t]] w fun e w' => e = .returned (.int .i64 (costOf a b o g p last l)) ∧ Sw w' a b o g aL aB cB B ∧ w.grownBy w' (some B) := by
  have HSw := Lib.hid HS
  have hBlt := HS.1.lt
  have HJF : Hid (∀ W, Calls Try.prog 54 #[.int .i64 p, .agg #[.int .i64 l.f, .int .i64 l.o, .int .i64 l.t]] W fun e w' => e = .returned (.tuple #[.int .i64 (jumpTo p l), .bool (canJ p l)]) ∧ Below W.heap.size W w') := fun W => jumpFrom_any p l hl hp0 hp1 W
  have HHAS : Hid (∀ W, Sw W a b o g aL aB cB B → Calls Try.prog 40 #[.slice aB (spreadOf a b o g true).length cB, .int .i64 (flip p l)] W fun e w' => e = .returned (.bool (hasB (spreadOf a b o g true) (flip p l))) ∧ Below W.heap.size W w') := fun W h => by
    obtain ⟨_, _, base, h3⟩ := h
    exact has_any _ _ base _ W h3
  have HV : Hid (costOf a b o g p last l = if onTo a b o g p l = true then fewest a b o g (flip p l) l.t + (if l.f = last then 0 else 1) else -1) := rfl
  have HON : Hid (onTo a b o g p l = (canJ p l && hasB (spreadOf a b o g true) (flip p l))) := rfl
  have HFH := Lib.hid HF
  have HBD := Lib.hid hbd
  clear HS HF hbd
  generalize costOf a b o g p last l = cv at *
  generalize fewest a b o g (flip p l) l.t = fv at *
  generalize onTo a b o g p l = ov at *
  generalize (linesOf a b o).length = nL at *
  generalize (spreadOf a b o g true).length = nB at *
  generalize hasB (spreadOf a b o g true) (flip p l) = hv at *
  cases hcj : canJ p l
  · have HE : Hid (cv = -1) := by show _ = _; rw [HV.out, HON.out, hcj]; simp
    rw [hcj] at HJF
    clear HV HON HFH HBD hcj
    go_enter Try.func58, Try.ntmps58
    go_wp2_with (go_at_call 54; refine (HJF.out _).mono ?_; rintro e w2 ⟨rfl, hb2⟩)
    all_goals go_ret
    all_goals exact ⟨by simp [HE.out], HSw.out.below (by (repeat' first | (with_reducible exact Below.refl _ _) | (with_reducible refine Below.alloc ?_ ?_ _) | (with_reducible refine Below.drew ?_) | (with_reducible refine Below.setCell ?_ ?_ _) | (with_reducible refine below_via (by assumption) ?_ ?_) | go_size)), gro_below (by (repeat' first | (with_reducible exact Below.refl _ _) | (with_reducible refine Below.alloc ?_ ?_ _) | (with_reducible refine Below.drew ?_) | (with_reducible refine Below.setCell ?_ ?_ _) | (with_reducible refine below_via (by assumption) ?_ ?_) | go_size))⟩
  · rw [hcj] at HJF
    simp only [show jumpTo p l = Peg.flip p l from by simp [jumpTo, hcj]] at HJF
    generalize Peg.flip p l = q at *
    cases hv
    · have HE : Hid (cv = -1) := by show _ = _; rw [HV.out, HON.out]; simp
      clear HV HON HFH HBD hcj
      go_enter Try.func58, Try.ntmps58
      go_wp2_with fail
      refine (HJF.out _).mono ?_
      rintro e w2 ⟨rfl, hb2⟩
      have hz2 := hb2.size
      simp only [World.size_alloc] at hz2
      have HB2 := Lib.hid (show Below w.heap.size w w2 by (repeat' first | (with_reducible exact Below.refl _ _) | (with_reducible refine Below.alloc ?_ ?_ _) | (with_reducible refine Below.drew ?_) | (with_reducible refine Below.setCell ?_ ?_ _) | (with_reducible refine below_via (by assumption) ?_ ?_) | go_size))
      have hbox : ∀ j, w2.cell? ⟨w.heap.size, j, none⟩ = #[Value.slice aL nL cL, .slice aB nB cB, .int .i64 g, .map (some B)][j]? := fun j => (hb2.cell (by simp; omega)).trans (by simp)
      have gW : w.heap.size < w2.heap.size := by omega
      clear hb2
      go_wp2_with (go_at_call 40; refine (HHAS.out _ (HSw.out.below HB2.out)).mono ?_; rintro e w3 ⟨rfl, hb3⟩)
      all_goals go_ret
      all_goals exact ⟨by simp [HE.out], (HSw.out.below HB2.out).below hb3, gro_below (HB2.out.trans (hb3.mono HB2.out.size))⟩
    · have hov : ov = true := by rw [HON.out, hcj]; rfl
      have HE : Hid (cv = fv + (if l.f = last then 0 else 1)) := by show _ = _; rw [HV.out, if_pos hov]
      obtain ⟨f0, f1⟩ := HBD.out hov
      have HFF := Lib.hid (HFH.out hov)
      clear HV HON HFH HBD hcj hov
      have hwf : wrap64 (fv + 1) = fv + 1 := IntWalk.wrap64_in _ (by omega)
      go_enter Try.func58, Try.ntmps58
      go_wp2_with fail
      refine (HJF.out _).mono ?_
      rintro e w2 ⟨rfl, hb2⟩
      have hz2 := hb2.size
      simp only [World.size_alloc] at hz2
      have HB2 := Lib.hid (show Below w.heap.size w w2 by (repeat' first | (with_reducible exact Below.refl _ _) | (with_reducible refine Below.alloc ?_ ?_ _) | (with_reducible refine Below.drew ?_) | (with_reducible refine Below.setCell ?_ ?_ _) | (with_reducible refine below_via (by assumption) ?_ ?_) | go_size))
      have hbox : ∀ j, w2.cell? ⟨w.heap.size, j, none⟩ = #[Value.slice aL nL cL, .slice aB nB cB, .int .i64 g, .map (some B)][j]? := fun j => (hb2.cell (by simp; omega)).trans (by simp)
      have hln : ∀ j, w2.cell? ⟨w.heap.size + 1, j, none⟩ = #[Value.int .i64 l.f, .int .i64 l.o, .int .i64 l.t][j]? := fun j => (hb2.cell (by simp)).trans (by simp)
      have gW : w.heap.size < w2.heap.size := by omega
      have gW1 : w.heap.size + 1 < w2.heap.size := by omega
      clear hb2
      go_wp2_with (go_at_call 40; refine (HHAS.out _ (HSw.out.below HB2.out)).mono ?_; rintro e w3 ⟨rfl, hb3⟩; have hz3 := hb3.size; have hbox3 : ∀ j, w3.cell? ⟨w.heap.size, j, none⟩ = #[Value.slice aL nL cL, .slice aB nB cB, .int .i64 g, .map (some B)][j]? := (fun j => (hb3.cell (by simpa using gW)).trans (hbox j)); have hln3 : ∀ j, w3.cell? ⟨w.heap.size + 1, j, none⟩ = #[Value.int .i64 l.f, .int .i64 l.o, .int .i64 l.t][j]? := (fun j => (hb3.cell (by simpa using gW1)).trans (hln j)))
      have HSw3 := Lib.hid ((HSw.out.below HB2.out).below hb3)
      have HB3 := Lib.hid (HB2.out.trans (hb3.mono HB2.out.size))
      have g0 : w.heap.size < w3.heap.size := by omega
      have g1 : w.heap.size + 1 < w3.heap.size := by omega
      clear hb3 hbox hln
      refine (HFF.out _ HSw3.out).mono ?_
      rintro e w4 ⟨rfl, hS4, hg4⟩
      have n1 : w.heap.size + 1 ≠ B := by omega
      have hln4 : ∀ j, w4.cell? ⟨w.heap.size + 1, j, none⟩ = #[Value.int .i64 l.f, .int .i64 l.o, .int .i64 l.t][j]? := fun j => (gro_cell hg4 g1 n1).trans (hln3 j)
      have HS4 := Lib.hid hS4
      have HG4 := Lib.hid (gro_trans (gro_below HB3.out) hg4)
      clear hS4 hg4 hln3 hbox3
      by_cases hfl : l.f = last
      · have hq1 : (l.f != last) = false := by simp [hfl]
        rw [if_pos hfl] at HE
        clear hfl
        go_wp2_with fail
        all_goals go_ret
        all_goals exact ⟨by rw [HE.out]; simp, HS4.out, HG4.out⟩
      · have hq1 : (l.f != last) = true := by simp [hfl]
        rw [if_neg hfl] at HE
        clear hfl
        go_wp2_with fail
        all_goals go_ret
        all_goals exact ⟨by rw [HE.out]; simp, HS4.out, HG4.out⟩
set_option maxHeartbeats 4000000 in
set_option maxRecDepth 100000 in
theorem fewest_any (a b o g : Int) (hs : isSmall a b o = true) (hg : posOk a b o g = true) (aL aB : Option Addr) (cL cB B : Nat) : ∀ (n : Nat) (p last : Int) (w : World), pegs p = n → posOk a b o p = true → reach a b o p g false = true → -1 ≤ last → last < 50 → Sw w a b o g aL aB cB B →
    Calls Try.prog 44 #[.agg #[.slice aL (linesOf a b o).length cL, .slice aB (spreadOf a b o g true).length cB, .int .i64 g, .map (some B)], .int .i64 p, .int .i64 last] w fun e w' => e = .returned (.int .i64 (fewest a b o g p last)) ∧ Sw w' a b o g aL aB cB B ∧ w.grownBy w' (some B) := by
  intro n
  induction n using Nat.strongRecOn with
  | _ n ih =>
  intro p last w hn hp hr hl0 hl1 hS
  by_cases hpg : p = g
  · subst hpg
    have HS := Lib.hid hS
    have HG := Lib.hid (fewest_goal a b o p last)
    clear hS ih hn hr
    go_enter Try.func44, Try.ntmps44
    go_wp2_with fail
    go_ret
    exact ⟨by simp [HG.out], HS.out.below (by (repeat' first | (with_reducible exact Below.refl _ _) | (with_reducible refine Below.alloc ?_ ?_ _) | (with_reducible refine Below.drew ?_) | (with_reducible refine Below.setCell ?_ ?_ _) | (with_reducible refine below_via (by assumption) ?_ ?_) | go_size)), gro_below (by (repeat' first | (with_reducible exact Below.refl _ _) | (with_reducible refine Below.alloc ?_ ?_ _) | (with_reducible refine Below.drew ?_) | (with_reducible refine Below.setCell ?_ ?_ _) | (with_reducible refine below_via (by assumption) ?_ ?_) | go_size))⟩
  have hpg1 : (p == g) = false := by simp [hpg]
  have HS := Lib.hid hS
  have hBlt := hS.1.lt
  have hpl := pos_lt hp
  have hwp : (Lit.int .i64 p).wf = true := WalkArith.wf_i64 (by omega)
  have hwl : (Lit.int .i64 last).wf = true := WalkArith.wf_i64 (by omega)
  have hkey := key_of hwp hwl
  have HFK := Lib.hid (fk_at a b o g hwp hwl)
  have HKM := Lib.hid (K2_mem hpl.1 (by have := pos_N hp; have := (small_N hs).2.2.2.1; omega) hl0 hl1)
  have HST := Lib.hid (fewest_step (a := a) (b := b) (o := o) (last := last) hpg)
  have hbd0 := fewest_bd hs hg n p hn hp hr last
  have hn49 := pegs_le p
  have HLI : Hid (∀ x ∈ linesOf a b o, LnIn a b x) := fun x hx => linesOf_in hx
  have HCO : Hid (∀ x ∈ linesOf a b o, (onTo a b o g p x = true → 0 ≤ fewest a b o g (Peg.flip p x) x.t ∧ fewest a b o g (Peg.flip p x) x.t ≤ 48) ∧ ∀ W, Sw W a b o g aL aB cB B → Calls Try.prog 58 #[.agg #[.slice aL (linesOf a b o).length cL, .slice aB (spreadOf a b o g true).length cB, .int .i64 g, .map (some B)], .int .i64 p, .int .i64 last, .agg #[.int .i64 x.f, .int .i64 x.o, .int .i64 x.t]] W fun e w' => e = .returned (.int .i64 (costOf a b o g p last x)) ∧ Sw w' a b o g aL aB cB B ∧ W.grownBy w' (some B)) := by
    intro x hx
    have hin := linesOf_in hx
    have hok := hin.1
    have key : onTo a b o g p x = true → pegs (Peg.flip p x) + 1 = pegs p ∧ posOk a b o (Peg.flip p x) = true ∧ reach a b o (Peg.flip p x) g false = true := by
      intro h
      simp only [onTo, Bool.and_eq_true] at h
      exact ⟨pegs_jump hok h.1, posOk_flip hp hx, by rw [← has_reach]; exact h.2⟩
    have hbd : onTo a b o g p x = true → 0 ≤ fewest a b o g (Peg.flip p x) x.t ∧ fewest a b o g (Peg.flip p x) x.t ≤ 48 := by
      intro h
      obtain ⟨k1, k2, k3⟩ := key h
      have := fewest_bd hs hg _ _ rfl k2 k3 x.t
      omega
    refine ⟨hbd, fun W hW => cost_any a b o g p last x aL aB cL cB B hok hpl.1 hpl.2 (fun h => by have := hbd h; omega) (fun h W hW => ?_) W hW⟩
    obtain ⟨k1, k2, k3⟩ := key h
    unfold LnOk at hok
    exact ih _ (by omega) _ _ W rfl k2 k3 (by omega) (by omega) hW
  have HFS : Hid (∀ best x, fwStep a b o g p last (fewest a b o g) best x = if onTo a b o g p x = true then lessOf best (costOf a b o g p last x) else best) := by
    intro best x
    unfold fwStep costOf
    by_cases h : onTo a b o g p x = true
    · rw [if_pos h, if_pos h, if_pos h]
    · rw [if_neg h, if_neg h]
  have HCV : Hid (∀ x, costOf a b o g p last x = if onTo a b o g p x = true then fewest a b o g (Peg.flip p x) x.t + (if x.f = last then 0 else 1) else -1) := fun x => rfl
  clear ih hp hn hS hwp hwl hr
  generalize fewest a b o g p last = fv at *
  generalize hfst : fwStep a b o g p last (fewest a b o g) = fs at *
  clear hfst
  generalize hcst : costOf a b o g p last = cs at *
  clear hcst
  generalize (spreadOf a b o g true).length = nB at *
  go_enter Try.func44, Try.ntmps44
  go_wp2_with (first | (at_lookup; refine wpList_memo_look _ rfl _ _ 70 rfl (HS.out.below (by (repeat' first | (with_reducible exact Below.refl _ _) | (with_reducible refine Below.alloc ?_ ?_ _) | (with_reducible refine Below.drew ?_) | (with_reducible refine Below.setCell ?_ ?_ _) | (with_reducible refine below_via (by assumption) ?_ ?_) | go_size))).1 law2 Try.underlying70 Try.underlying3 (zero3 _) rfl rfl hkey ?_; intro c ok hcok) | go_in)
  · have hc := hcok (by assumption)
    go_ret
    exact ⟨by simp [hc, HFK.out], HS.out.below (by (repeat' first | (with_reducible exact Below.refl _ _) | (with_reducible refine Below.alloc ?_ ?_ _) | (with_reducible refine Below.drew ?_) | (with_reducible refine Below.setCell ?_ ?_ _) | (with_reducible refine below_via (by assumption) ?_ ?_) | go_size)), gro_below (by (repeat' first | (with_reducible exact Below.refl _ _) | (with_reducible refine Below.alloc ?_ ?_ _) | (with_reducible refine Below.drew ?_) | (with_reducible refine Below.setCell ?_ ?_ _) | (with_reducible refine below_via (by assumption) ?_ ?_) | go_size))⟩
  obtain rfl : ok = false := by assumption
  have hX : ∀ j, ((w.alloc (.cells #[.slice aL (linesOf a b o).length cL, .slice aB nB cB, .int .i64 g, .map (some B)] 72)).alloc (.cells #[.int .i64 p, .int .i64 last] 86)).cell? ⟨w.heap.size, j, none⟩ = #[Value.slice aL (linesOf a b o).length cL, .slice aB nB cB, .int .i64 g, .map (some B)][j]? := fun j => by simp
  have hK : ∀ j, ((w.alloc (.cells #[.slice aL (linesOf a b o).length cL, .slice aB nB cB, .int .i64 g, .map (some B)] 72)).alloc (.cells #[.int .i64 p, .int .i64 last] 86)).cell? ⟨w.heap.size + 1, j, none⟩ = #[Value.int .i64 p, .int .i64 last][j]? := fun j => by
    simp
  clear hcok hpg hpg1
  have hL196 := linesOf_le a b o
  generalize hL0 : linesOf a b o = L at *
  have HL0 := Lib.hid hL0
  clear hL0
  go_loopw [10, 33] (fun bs i wr => ∃ (j : Nat) (m : Int), j ≤ L.length ∧ i = .int .i64 j ∧ bs = .int .i64 m ∧ Hid (m = (L.take j).foldl fs (-1)) ∧ -1 ≤ m ∧ m ≤ 49 ∧ Hid (Sw wr a b o g aL aB cB B) ∧ Hid (w.grownBy wr (some B)) ∧ (∀ j, wr.cell? ⟨w.heap.size, j, none⟩ = #[Value.slice aL L.length cL, .slice aB nB cB, .int .i64 g, .map (some B)][j]?) ∧ (∀ j, wr.cell? ⟨w.heap.size + 1, j, none⟩ = #[Value.int .i64 p, .int .i64 last][j]?) ∧ w.heap.size + 1 < wr.heap.size) (fun _ i _ => L.length - (intOf i).toNat)
  case atStart => exact ⟨0, -1, by omega, rfl, rfl, by show _ = _; rfl, by omega, by omega, HS.out.below (by (repeat' first | (with_reducible exact Below.refl _ _) | (with_reducible refine Below.alloc ?_ ?_ _) | (with_reducible refine Below.drew ?_) | (with_reducible refine Below.setCell ?_ ?_ _) | (with_reducible refine below_via (by assumption) ?_ ?_) | go_size)), gro_below (by (repeat' first | (with_reducible exact Below.refl _ _) | (with_reducible refine Below.alloc ?_ ?_ _) | (with_reducible refine Below.drew ?_) | (with_reducible refine Below.setCell ?_ ?_ _) | (with_reducible refine below_via (by assumption) ?_ ?_) | go_size)), hX, hK, by simp⟩
  case round =>
    obtain ⟨j, m, hj, rfl, rfl, HM, hm0, hm1, HSr, HGr, hXr, hKr, hzr⟩ := hrel
    by_cases hlt : j < L.length
    · obtain ⟨bL, hbL, hbL1, hf, ho, ht⟩ := (show LnAt wr aL L by rw [← HL0.out]; exact HSr.out.2.1) j hlt
      have gW0 : w.heap.size < wr.heap.size := by omega
      subst hbL
      have hmem := gD_mem L Ln0 j hlt
      obtain ⟨hbd, hC⟩ := HCO.out _ hmem
      have HC := Lib.hid hC
      have HFO : Hid ((L.take (j + 1)).foldl fs (-1) = fs m (gD L Ln0 j)) := by
        show _ = _
        rw [take_gD L Ln0 j hlt, List.foldl_append, ← HM.out]
        rfl
      have hfs := HFS.out m (gD L Ln0 j)
      have hcv := HCV.out (gD L Ln0 j)
      have HB1 : Hid (Below wr.heap.size wr (wr.alloc (.cells #[.int .i64 (gD L Ln0 j).f, .int .i64 (gD L Ln0 j).o, .int .i64 (gD L Ln0 j).t] 63))) := (Below.refl _ _).alloc (Nat.le_refl _) _
      clear hC
      have HPOST : Hid (∀ W, Sw W a b o g (some ⟨bL, 0, none⟩) aB cB B → (wr.alloc (.cells #[.int .i64 (gD L Ln0 j).f, .int .i64 (gD L Ln0 j).o, .int .i64 (gD L Ln0 j).t] 63)).grownBy W (some B) → Hid (Sw W a b o g (some ⟨bL, 0, none⟩) aB cB B) ∧ Hid (w.grownBy W (some B)) ∧ (∀ j, W.cell? ⟨w.heap.size, j, none⟩ = #[Value.slice (some ⟨bL, 0, none⟩) L.length cL, .slice aB nB cB, .int .i64 g, .map (some B)][j]?) ∧ (∀ j, W.cell? ⟨w.heap.size + 1, j, none⟩ = #[Value.int .i64 p, .int .i64 last][j]?) ∧ w.heap.size + 1 < W.heap.size) := by
        intro W h1 h2
        have hz := h2.size
        simp only [World.size_alloc] at hz
        exact ⟨h1, gro_trans (gro_via HGr.out HB1.out) h2, fun j => ((gro_cell h2 (by simp; omega) (by omega)).trans (HB1.out.cell (by simp; omega))).trans (hXr j), fun j => ((gro_cell h2 (by simp; omega) (by omega)).trans (HB1.out.cell (by simpa using hzr))).trans (hKr j), by omega⟩
      generalize gD L Ln0 j = x at *
      have hcase : (¬ 0 ≤ cs x ∧ fs m x = m) ∨ (0 ≤ cs x ∧ cs x ≤ 49 ∧ m < 0 ∧ fs m x = cs x) ∨ (0 ≤ cs x ∧ cs x ≤ 49 ∧ ¬ m < 0 ∧ cs x < m ∧ fs m x = cs x) ∨ (0 ≤ cs x ∧ cs x ≤ 49 ∧ ¬ m < 0 ∧ ¬ cs x < m ∧ fs m x = m) := by
        rw [hfs]
        by_cases hon : onTo a b o g p x = true
        · rw [if_pos hon] at hcv ⊢
          obtain ⟨b0, b1⟩ := hbd hon
          have hcb : 0 ≤ cs x ∧ cs x ≤ 49 := by rw [hcv]; split <;> omega
          unfold lessOf
          by_cases h1 : m < 0
          · exact Or.inr (Or.inl ⟨hcb.1, hcb.2, h1, by rw [if_pos (Or.inl h1)]⟩)
          · by_cases h2 : cs x < m
            · exact Or.inr (Or.inr (Or.inl ⟨hcb.1, hcb.2, h1, h2, by rw [if_pos (Or.inr h2)]⟩))
            · exact Or.inr (Or.inr (Or.inr ⟨hcb.1, hcb.2, h1, h2, by rw [if_neg (by omega)]⟩))
        · rw [if_neg hon] at hcv ⊢
          exact Or.inl ⟨by omega, rfl⟩
      clear hcv hfs hbd HCO HFS HCV
      generalize hv : cs x = c at *
      clear hv
      rcases hcase with ⟨h1, hnew⟩ | ⟨h1, h2, h3, hnew⟩ | ⟨h1, h2, h3, h4, hnew⟩ | ⟨h1, h2, h3, h4, hnew⟩
      · have hd1 : decide (0 ≤ c) = false := decide_eq_false h1
        go_wp2_with fail
        refine (HC.out _ (HSr.out.below HB1.out)).mono ?_
        rintro e w3 ⟨rfl, hS3, hg3⟩
        obtain ⟨HS3, HG3, hX3, hK3, hz3⟩ := HPOST.out w3 hS3 hg3
        clear hS3 hg3
        go_wp2_with fail
        go_roundw
        case rel => exact ⟨j + 1, _, by omega, by go_num, rfl, by show _ = _; rw [HFO.out, hnew], by omega, by omega, HS3, HG3, hX3, hK3, hz3⟩
        case measure => simp [intOf]; omega
      · have hd1 : decide (0 ≤ c) = true := decide_eq_true h1
        have hd2 : decide (m < 0) = true := decide_eq_true h3
        go_wp2_with fail
        refine (HC.out _ (HSr.out.below HB1.out)).mono ?_
        rintro e w3 ⟨rfl, hS3, hg3⟩
        obtain ⟨HS3, HG3, hX3, hK3, hz3⟩ := HPOST.out w3 hS3 hg3
        clear hS3 hg3
        go_wp2_with fail
        go_roundw
        case rel => exact ⟨j + 1, _, by omega, by go_num, rfl, by show _ = _; rw [HFO.out, hnew], by omega, by omega, HS3, HG3, hX3, hK3, hz3⟩
        case measure => simp [intOf]; omega
      · have hd1 : decide (0 ≤ c) = true := decide_eq_true h1
        have hd2 : decide (m < 0) = false := decide_eq_false h3
        have hd3 : decide (c < m) = true := decide_eq_true h4
        go_wp2_with fail
        refine (HC.out _ (HSr.out.below HB1.out)).mono ?_
        rintro e w3 ⟨rfl, hS3, hg3⟩
        obtain ⟨HS3, HG3, hX3, hK3, hz3⟩ := HPOST.out w3 hS3 hg3
        clear hS3 hg3
        go_wp2_with fail
        go_roundw
        case rel => exact ⟨j + 1, _, by omega, by go_num, rfl, by show _ = _; rw [HFO.out, hnew], by omega, by omega, HS3, HG3, hX3, hK3, hz3⟩
        case measure => simp [intOf]; omega
      · have hd1 : decide (0 ≤ c) = true := decide_eq_true h1
        have hd2 : decide (m < 0) = false := decide_eq_false h3
        have hd3 : decide (c < m) = false := decide_eq_false h4
        go_wp2_with fail
        refine (HC.out _ (HSr.out.below HB1.out)).mono ?_
        rintro e w3 ⟨rfl, hS3, hg3⟩
        obtain ⟨HS3, HG3, hX3, hK3, hz3⟩ := HPOST.out w3 hS3 hg3
        clear hS3 hg3
        go_wp2_with fail
        go_roundw
        case rel => exact ⟨j + 1, _, by omega, by go_num, rfl, by show _ = _; rw [HFO.out, hnew], by omega, by omega, HS3, HG3, hX3, hK3, hz3⟩
        case measure => simp [intOf]; omega
    · obtain rfl : j = L.length := by omega
      have hmf : m = fv := by rw [HM.out, List.take_length, ← HST.out]
      have HU : Hid (m = fk a b o g (KL p last)) := by show _ = _; rw [HFK.out, hmf]
      have HMF := Lib.hid hmf
      have hwf : (Lit.int .i64 m).wf = true := WalkArith.wf_i64 (by omega)
      clear hmf
      go_wp2_with (first | (at_mapUpdate; refine wpList_memo_store _ rfl _ _ _ 70 rfl HSr.out.1 law2 Try.underlying70 Try.underlying3 K2_len rfl rfl rfl hkey HKM.out HU.out hwf ?_; intro w5 HM5 HG5) | go_in)
      all_goals go_ret
      all_goals exact ⟨by simp [HMF.out], HSr.out.gro HM5 HG5, gro_trans HGr.out HG5⟩
end Go.Proofs.Ytfmplmlilmalpaa
