/- LqC: contract of FewestSweeps of the reference. Conditions: the board is small, the positions are in order. -/
import Derived.Test.YtfmplmlilmalpaaLqB
set_option linter.unusedVariables false
set_option linter.unusedSimpArgs false
namespace Go.Proofs.Ytfmplmlilmalpaa
open Go.ChangeShapes Go.WideShapes Go.ChangeAt Go.RowKit Peg Go.Sort
set_option maxHeartbeats 4000000 in
set_option maxRecDepth 100000 in
theorem sFewestSweeps_any (a b o p g : Int) (hs : isSmall a b o = true) (hp : posOk a b o p = true) (hg : posOk a b o g = true) (w : World) :
    Calls Try.prog 16 #[.agg #[.int .i64 a, .int .i64 b, .int .i64 o], .int .i64 p, .int .i64 g] w fun e w' => e = .returned (.int .i64 (fewestSweeps a b o p g)) ∧ Below w.heap.size w w' := by
  obtain ⟨hbo, ab1, ab16, hN, hN1⟩ := small_N hs
  have hpN := pos_N hp
  have HCR : Hid (∀ W, Calls Try.prog 14 #[.agg #[.int .i64 a, .int .i64 b, .int .i64 o], .int .i64 p, .int .i64 g] W fun e w' => e = .returned (.bool (reach a b o p g false)) ∧ Below W.heap.size W w') := fun W => sCanReach_ok a b o p g (by have := pos_lt hp; omega) (by have := pos_lt hg; omega) hs hp hg W
  have HLT : Hid (∀ W, Calls Try.prog 34 #[.agg #[.int .i64 a, .int .i64 b, .int .i64 o], .int .i64 p, .int .i64 g] W (RetLeast W a b o p g)) := fun W => l21Least_any a b o p g hs hp hg W
  have HV : Hid (fewestSweeps a b o p g = if reach a b o p g false = true then fewest a b o g p (-1) else -1) := rfl
  have HL : Hid (∀ t : Int, t < 0 ∨ a * b ≤ t → fewest a b o g p t = fewest a b o g p (-1)) := fun t ht => fewest_any_last fun l hl => by
    have h := linesOf_in hl
    unfold LnIn LnOk at h
    omega
  have HPG : Hid (reach a b o p g false = true → pegs g ≤ pegs p) := fun h => steps_pegs ((hasB_iff hs hp).1 h)
  have HME : Hid (p ∈ reachList a b o p) := by
    have h2 : hasB (spreadOf a b o p false) p = true := (hasB_iff hs hp).2 (.refl p)
    show p ∈ _
    simp only [hasB, Bool.and_eq_true, decide_eq_true_eq] at h2
    unfold reachList listOf listTo
    rw [List.mem_map]
    refine ⟨p.toNat, ?_, by omega⟩
    rw [List.mem_filter, List.mem_range]
    exact ⟨by omega, h2.2⟩
  unfold RetLeast at HLT
  clear hp hg hs hbo
  generalize fewestSweeps a b o p g = fv at *
  generalize reach a b o p g false = rr at *
  cases rr
  · have HE : Hid (fv = -1) := by show _ = _; rw [HV.out]; rfl
    go_enter Try.func16, Try.ntmps16
    go_wp2_with (go_at_call 14; refine (HCR.out _).mono ?_; rintro e w2 ⟨rfl, hb2⟩)
    all_goals go_ret
    all_goals exact ⟨by simp [HE.out], by (repeat' first | (with_reducible exact Below.refl _ _) | (with_reducible refine Below.alloc ?_ ?_ _) | (with_reducible refine Below.drew ?_) | (with_reducible refine Below.setCell ?_ ?_ _) | (with_reducible refine below_via (by assumption) ?_ ?_) | go_size)⟩
  · have hfe : fewest a b o g p (a * b) = fv := by
      rw [HL.out _ (.inr (Int.le_refl _)), HV.out]; rfl
    have hn1 : (a * b).toNat < (a * b).toNat + 1 := by omega
    have HGET : Hid (∀ (bT : Nat) (W : World), (∀ x ∈ reachList a b o p, pegs g ≤ pegs x → ∃ b', b' < W.heap.size ∧ W.cell? ⟨bT, x.toNat, none⟩ = some (.slice (some ⟨b', 0, none⟩) ((a * b).toNat + 1) ((a * b).toNat + 1)) ∧ ∀ t : Nat, t < (a * b).toNat + 1 → W.cell? ⟨b', t, none⟩ = some (.int .i64 (fewest a b o g x t))) → ∃ b', b' < W.heap.size ∧ W.cell? ⟨bT, p.toNat, none⟩ = some (.slice (some ⟨b', 0, none⟩) ((a * b).toNat + 1) ((a * b).toNat + 1)) ∧ W.cell? ⟨b', (a * b).toNat, none⟩ = some (.int .i64 fv)) := by
      intro bT W h
      obtain ⟨b', h1, h2, h3⟩ := h p HME.out (HPG.out rfl)
      have h4 := h3 _ hn1
      rw [show (((a * b).toNat : Nat) : Int) = a * b from by omega, hfe] at h4
      exact ⟨b', h1, h2, h4⟩
    have hw : IntKind.i64.wrap (a * b) = a * b := IntWalk.i64_in _ (by omega)
    clear hfe HV HL HPG HME
    go_enter Try.func16, Try.ntmps16
    go_wp2_with (go_at_call 14; refine (HCR.out _).mono ?_; rintro e w2 ⟨rfl, hb2⟩)
    have hz2 := hb2.size
    simp only [World.size_alloc] at hz2
    have hbox2 : ∀ j, w2.cell? ⟨w.heap.size, j, none⟩ = #[Value.int .i64 a, .int .i64 b, .int .i64 o][j]? := fun j => (hb2.cell (by simp)).trans (by simp)
    have gW2 : w.heap.size < w2.heap.size := by omega
    have HB2 : Hid (Below w.heap.size w w2) := by show Below _ _ _; (repeat' first | (with_reducible exact Below.refl _ _) | (with_reducible refine Below.alloc ?_ ?_ _) | (with_reducible refine Below.drew ?_) | (with_reducible refine Below.setCell ?_ ?_ _) | (with_reducible refine below_via (by assumption) ?_ ?_) | go_size)
    clear hb2
    generalize hn : (a * b).toNat = nn at *
    have HNN := Lib.hid hn
    have hnx : a * b < ((nn + 1 : Nat) : Int) := by omega
    have hnx0 : 0 ≤ a * b := by omega
    generalize boardN a b = N at *
    go_region_with (go_at_call 34; refine (HLT.out _).mono ?_; rintro e w3 ⟨bT, rfl, hbT, htab, hb3⟩; obtain ⟨b', hb', hc1, hc2⟩ := HGET.out bT w3 htab; have hz3 := hb3.size; simp only [World.size_drew] at hz3; have hbox3 : ∀ j, w3.cell? ⟨w.heap.size, j, none⟩ = #[Value.int .i64 a, .int .i64 b, .int .i64 o][j]? := (fun j => (hb3.cell (by simpa using gW2)).trans (by simpa using hbox2 j)); have gW3 : w.heap.size < w3.heap.size := (by omega); have HB3 := Lib.hid (HB2.out.trans (((Below.refl w.heap.size w2).drew).trans (hb3.mono (by simp only [World.size_drew]; omega)))); clear hb3 htab)
    all_goals go_wp2_with fail
    all_goals go_ret
    all_goals exact ⟨by first | (simp; done) | (simp; rfl), HB3.out⟩
end Go.Proofs.Ytfmplmlilmalpaa
