/- Make: contracts of TurnGame, MakeGame and the reference's. Conditions: numbers in range. -/
import Derived.Test.YtfpofhkggojaoaaMake0
set_option linter.unusedVariables false
set_option linter.unusedSimpArgs false
namespace Go.Proofs.Ytfpofhkggojaoaa
open Go.ChangeShapes Go.WideShapes Go.ChangeAt Go.RowKit Peg Go.Sort
def RetGame (w : World) (g : List Ln × Int) (e : Ending) (w' : World) : Prop := ∃ v, e = .returned (.tuple #[v, .int .i64 g.2]) ∧ Own ELine w' w.heap.size v g.1 ∧ Below w.heap.size w w'
set_option maxHeartbeats 1000000 in
set_option maxRecDepth 100000 in
theorem TurnGame_any (L : List Ln) (v : Value) (hl : L.length ≤ 1048576) (w : World) {B : Nat} (hv : Own ELine w B v L) :
    Calls Try.prog 129 #[v] w (RetLines w L.reverse) := by
  obtain ⟨aL, capL, rfl, hnL, hgetL⟩ := hv.lineG
  have HGL := Lib.hid hgetL
  clear hgetL hv
  go_enter Try.func129, Try.ntmps129
  go_wp2_with fail
  go_loopw [3, 4] (fun v i wr => ∃ (m : Nat) (t : Int), m ≤ L.length ∧ i = .int .i64 t ∧ Hid (t = (m : Int) - 1) ∧ Own ELine wr w.heap.size v (L.drop m).reverse ∧ Below w.heap.size w wr) (fun _ i _ => (intOf i + 1).toNat)
  case atStart => exact ⟨L.length, _, by omega, rfl, rfl, by simp; exact Own.emptyAny _ _ _ _, by (repeat' first | (with_reducible exact Below.refl _ _) | (with_reducible refine Below.alloc ?_ ?_ _) | (with_reducible refine Below.drew ?_) | (with_reducible refine Below.setCell ?_ ?_ _) | (with_reducible refine below_via (by assumption) ?_ ?_) | go_size)⟩
  case round =>
    obtain ⟨m, t, hm, rfl, ht, hown, hbw⟩ := hrel
    have hz5 := hbw.size
    rcases Nat.eq_zero_or_pos m with h0 | h0
    · have HE : Hid ((L.drop m).reverse = L.reverse) := by show _ = _; rw [h0]; rfl
      have ht2 : t < 0 := by have := ht.out; omega
      clear h0 ht
      go_wp2_with fail
      go_ret
      exact ⟨_, rfl, by rw [HE.out] at hown; exact hown, hbw⟩
    · obtain ⟨k, rfl⟩ : ∃ k, m = k + 1 := ⟨m - 1, by omega⟩
      obtain rfl : t = (k : Int) := by have := ht.out; omega
      clear ht
      have hlt : k < L.length := by omega
      obtain ⟨bL, rfl, _, hbL, hc0, hc1, hc2⟩ := HGL.out k hlt
      rw [← hbw.cell (by simpa using hbL)] at hc0 hc1 hc2
      have HD := Lib.hid (drop_rev L Ln0 k hlt)
      have hlen : (L.drop (k + 1)).reverse.length ≤ L.length := by simp
      generalize gD L Ln0 k = l at *
      generalize (L.drop (k + 1)).reverse = D at *
      have gW1 : bL < wr.heap.size := by omega
      go_wp2_with (at_builtin; (refine append1 (E := ELine) (l := D) rfl rfl _ _ 32 rfl Try.underlying32 rfl hown l rfl (by omega) (by omega) ?_); intro v' w2 hown2 hb2 hg2)
      go_roundw
      case rel => exact ⟨k, _, by omega, rfl, rfl, by rw [HD.out]; exact hown2, hbw.trans hb2⟩
      case measure => simp [intOf]
set_option maxHeartbeats 2000000 in
set_option maxRecDepth 100000 in
theorem MakeGame_any (a b o g n s : Int) (hg : g ≤ 9223372036854775807) (w : World) :
    Calls Try.prog 43 #[.agg #[.int .i64 a, .int .i64 b, .int .i64 o], .int .i64 g, .int .i64 n, .int .i64 s] w (RetGame w (makeGame a b o g n s)) := by
  have HPO : Hid (∀ W, Calls Try.prog 108 #[.agg #[.int .i64 a, .int .i64 b, .int .i64 o], .int .i64 g] W fun e w' => e = .returned (.bool (posOk a b o g)) ∧ Below W.heap.size W w') := fun W => PositionOk_any a b o g hg W
  have HN : Hid (∀ W, Calls Try.prog 125 #[.int .i64 n, .int .i64 0, .int .i64 40] W fun e w' => e = .returned (.bool (inR n 0 40)) ∧ W = w') := fun W => within_any n 0 40 W
  have HS : Hid (∀ W, Calls Try.prog 125 #[.int .i64 s, .int .i64 0, .int .i64 65536] W fun e w' => e = .returned (.bool (inR s 0 65536)) ∧ W = w') := fun W => within_any s 0 65536 W
  by_cases hok : makeOk a b o g n s = true
  rotate_left
  · rw [show makeGame a b o g n s = ([], g) from by simp [makeGame, hok]]
    simp only [makeOk] at hok
    cases h1 : posOk a b o g
    · rw [h1] at HPO; clear hok h1
      go_enter Try.func43, Try.ntmps43
      go_wp2_with (go_at_call 108; refine (HPO.out _).mono ?_; rintro e w' ⟨rfl, hb⟩; obtain ⟨hc, hf, hz, hy⟩ := bcell hb; clear hy; (try simp only [World.size_alloc, World.size_setCell, World.size_drew] at hz); (try have gQ0 : w.heap.size < w'.heap.size := by omega); (try have gQ1 : w.heap.size + 1 < w'.heap.size := by omega); (try have gQ2 : w.heap.size + 1 + 1 < w'.heap.size := by omega); (try have gQ3 : w.heap.size + 1 + 1 + 1 < w'.heap.size := by omega); (try have gQ4 : w.heap.size + 1 + 1 + 1 + 1 < w'.heap.size := by omega); (try have gQ5 : w.heap.size + 1 + 1 + 1 + 1 + 1 < w'.heap.size := by omega); (try have dQ0 : _ < w'.heap.size := Nat.lt_of_lt_of_le dQ0 (by omega)); (try have dQ1 : _ < w'.heap.size := Nat.lt_of_lt_of_le dQ1 (by omega)); (try have dQ2 : _ < w'.heap.size := Nat.lt_of_lt_of_le dQ2 (by omega)); (try have dQ3 : _ < w'.heap.size := Nat.lt_of_lt_of_le dQ3 (by omega)); (try have dQ4 : _ < w'.heap.size := Nat.lt_of_lt_of_le dQ4 (by omega)); (try have dQ5 : _ < w'.heap.size := Nat.lt_of_lt_of_le dQ5 (by omega)); (try (have hnQ := Nat.lt_of_succ_le hz; first | (have _x := dQ0; first | (have _x := dQ1; first | (have _x := dQ2; first | (have _x := dQ3; first | (have _x := dQ4; have dQ5 := hnQ) | have dQ4 := hnQ) | have dQ3 := hnQ) | have dQ2 := hnQ) | have dQ1 := hnQ) | have dQ0 := hnQ)); (try (have hmQ := Nat.lt_of_succ_lt (Nat.lt_of_succ_le hz); first | (have _x := dQ0; first | (have _x := dQ1; first | (have _x := dQ2; first | (have _x := dQ3; first | (have _x := dQ4; have dQ5 := hmQ) | have dQ4 := hmQ) | have dQ3 := hmQ) | have dQ2 := hmQ) | have dQ1 := hmQ) | have dQ0 := hmQ)))
      all_goals go_ret2
      all_goals exact ⟨_, rfl, Own.emptyAny _ _ _ _, by (repeat' first | (with_reducible exact Below.refl _ _) | (with_reducible refine Below.alloc ?_ ?_ _) | (with_reducible refine Below.drew ?_) | (with_reducible refine Below.setCell ?_ ?_ _) | (with_reducible refine below_via (by assumption) ?_ ?_) | go_size)⟩
    cases h2 : inR n 0 40
    · rw [h1] at HPO; rw [h2] at HN; clear hok h1 h2
      go_enter Try.func43, Try.ntmps43
      go_wp2_with (first | (go_at_call 108; refine (HPO.out _).mono ?_; rintro e w' ⟨rfl, hb⟩; obtain ⟨hc, hf, hz, hy⟩ := bcell hb; clear hy; (try simp only [World.size_alloc, World.size_setCell, World.size_drew] at hz); (try have gQ0 : w.heap.size < w'.heap.size := by omega); (try have gQ1 : w.heap.size + 1 < w'.heap.size := by omega); (try have gQ2 : w.heap.size + 1 + 1 < w'.heap.size := by omega); (try have gQ3 : w.heap.size + 1 + 1 + 1 < w'.heap.size := by omega); (try have gQ4 : w.heap.size + 1 + 1 + 1 + 1 < w'.heap.size := by omega); (try have gQ5 : w.heap.size + 1 + 1 + 1 + 1 + 1 < w'.heap.size := by omega); (try have dQ0 : _ < w'.heap.size := Nat.lt_of_lt_of_le dQ0 (by omega)); (try have dQ1 : _ < w'.heap.size := Nat.lt_of_lt_of_le dQ1 (by omega)); (try have dQ2 : _ < w'.heap.size := Nat.lt_of_lt_of_le dQ2 (by omega)); (try have dQ3 : _ < w'.heap.size := Nat.lt_of_lt_of_le dQ3 (by omega)); (try have dQ4 : _ < w'.heap.size := Nat.lt_of_lt_of_le dQ4 (by omega)); (try have dQ5 : _ < w'.heap.size := Nat.lt_of_lt_of_le dQ5 (by omega)); (try (have hnQ := Nat.lt_of_succ_le hz; first | (have _x := dQ0; first | (have _x := dQ1; first | (have _x := dQ2; first | (have _x := dQ3; first | (have _x := dQ4; have dQ5 := hnQ) | have dQ4 := hnQ) | have dQ3 := hnQ) | have dQ2 := hnQ) | have dQ1 := hnQ) | have dQ0 := hnQ)); (try (have hmQ := Nat.lt_of_succ_lt (Nat.lt_of_succ_le hz); first | (have _x := dQ0; first | (have _x := dQ1; first | (have _x := dQ2; first | (have _x := dQ3; first | (have _x := dQ4; have dQ5 := hmQ) | have dQ4 := hmQ) | have dQ3 := hmQ) | have dQ2 := hmQ) | have dQ1 := hmQ) | have dQ0 := hmQ))) | (go_at_call 125; (with_reducible refine (HN.out _).mono ?_); rintro e w' ⟨rfl, rfl⟩))
      all_goals go_ret2
      all_goals exact ⟨_, rfl, Own.emptyAny _ _ _ _, by (repeat' first | (with_reducible exact Below.refl _ _) | (with_reducible refine Below.alloc ?_ ?_ _) | (with_reducible refine Below.drew ?_) | (with_reducible refine Below.setCell ?_ ?_ _) | (with_reducible refine below_via (by assumption) ?_ ?_) | go_size)⟩
    have h3 : inR s 0 65536 = false := by simpa [h1, h2] using hok
    rw [h1] at HPO; rw [h2] at HN; rw [h3] at HS; clear hok h1 h2 h3
    go_enter Try.func43, Try.ntmps43
    go_wp2_with (first | (go_at_call 108; refine (HPO.out _).mono ?_; rintro e w' ⟨rfl, hb⟩; obtain ⟨hc, hf, hz, hy⟩ := bcell hb; clear hy; (try simp only [World.size_alloc, World.size_setCell, World.size_drew] at hz); (try have gQ0 : w.heap.size < w'.heap.size := by omega); (try have gQ1 : w.heap.size + 1 < w'.heap.size := by omega); (try have gQ2 : w.heap.size + 1 + 1 < w'.heap.size := by omega); (try have gQ3 : w.heap.size + 1 + 1 + 1 < w'.heap.size := by omega); (try have gQ4 : w.heap.size + 1 + 1 + 1 + 1 < w'.heap.size := by omega); (try have gQ5 : w.heap.size + 1 + 1 + 1 + 1 + 1 < w'.heap.size := by omega); (try have dQ0 : _ < w'.heap.size := Nat.lt_of_lt_of_le dQ0 (by omega)); (try have dQ1 : _ < w'.heap.size := Nat.lt_of_lt_of_le dQ1 (by omega)); (try have dQ2 : _ < w'.heap.size := Nat.lt_of_lt_of_le dQ2 (by omega)); (try have dQ3 : _ < w'.heap.size := Nat.lt_of_lt_of_le dQ3 (by omega)); (try have dQ4 : _ < w'.heap.size := Nat.lt_of_lt_of_le dQ4 (by omega)); (try have dQ5 : _ < w'.heap.size := Nat.lt_of_lt_of_le dQ5 (by omega)); (try (have hnQ := Nat.lt_of_succ_le hz; first | (have _x := dQ0; first | (have _x := dQ1; first | (have _x := dQ2; first | (have _x := dQ3; first | (have _x := dQ4; have dQ5 := hnQ) | have dQ4 := hnQ) | have dQ3 := hnQ) | have dQ2 := hnQ) | have dQ1 := hnQ) | have dQ0 := hnQ)); (try (have hmQ := Nat.lt_of_succ_lt (Nat.lt_of_succ_le hz); first | (have _x := dQ0; first | (have _x := dQ1; first | (have _x := dQ2; first | (have _x := dQ3; first | (have _x := dQ4; have dQ5 := hmQ) | have dQ4 := hmQ) | have dQ3 := hmQ) | have dQ2 := hmQ) | have dQ1 := hmQ) | have dQ0 := hmQ))) | (go_at_call 125; (with_reducible refine (HN.out _).mono ?_); rintro e w' ⟨rfl, rfl⟩) | (go_at_call 125; (with_reducible refine (HS.out _).mono ?_); rintro e w' ⟨rfl, rfl⟩))
    all_goals go_ret2
    all_goals exact ⟨_, rfl, Own.emptyAny _ _ _ _, by (repeat' first | (with_reducible exact Below.refl _ _) | (with_reducible refine Below.alloc ?_ ?_ _) | (with_reducible refine Below.drew ?_) | (with_reducible refine Below.setCell ?_ ?_ _) | (with_reducible refine below_via (by assumption) ?_ ?_) | go_size)⟩
  obtain ⟨⟨h1, h2⟩, h3⟩ : (posOk a b o g = true ∧ inR n 0 40 = true) ∧ inR s 0 65536 = true := by simpa [makeOk] using hok
  have hn := inR_iff.1 h2
  have hs := inR_iff.1 h3
  rw [h1] at HPO; rw [h2] at HN; rw [h3] at HS
  obtain ⟨N, rfl⟩ : ∃ N : Nat, n = N := ⟨n.toNat, by omega⟩
  obtain ⟨F, hF⟩ : ∃ F, mkRun a b o N ⟨s, g, []⟩ = F := ⟨_, rfl⟩
  have HR : Hid (makeGame a b o g N s = (F.out.reverse, F.p)) := by show _ = _; rw [← hF]; simp [makeGame, hok]
  generalize makeGame a b o g N s = G at *
  have HF := Lib.hid hF
  have H1 := Lib.hid h1
  clear hok h1 h2 h3 hF
  go_enter Try.func43, Try.ntmps43
  go_wp2_with (first | (go_at_call 108; refine (HPO.out _).mono ?_; rintro e w' ⟨rfl, hb⟩; obtain ⟨hc, hf, hz, hy⟩ := bcell hb; clear hy; (try simp only [World.size_alloc, World.size_setCell, World.size_drew] at hz); (try have gQ0 : w.heap.size < w'.heap.size := by omega); (try have gQ1 : w.heap.size + 1 < w'.heap.size := by omega); (try have gQ2 : w.heap.size + 1 + 1 < w'.heap.size := by omega); (try have gQ3 : w.heap.size + 1 + 1 + 1 < w'.heap.size := by omega); (try have gQ4 : w.heap.size + 1 + 1 + 1 + 1 < w'.heap.size := by omega); (try have gQ5 : w.heap.size + 1 + 1 + 1 + 1 + 1 < w'.heap.size := by omega); (try have dQ0 : _ < w'.heap.size := Nat.lt_of_lt_of_le dQ0 (by omega)); (try have dQ1 : _ < w'.heap.size := Nat.lt_of_lt_of_le dQ1 (by omega)); (try have dQ2 : _ < w'.heap.size := Nat.lt_of_lt_of_le dQ2 (by omega)); (try have dQ3 : _ < w'.heap.size := Nat.lt_of_lt_of_le dQ3 (by omega)); (try have dQ4 : _ < w'.heap.size := Nat.lt_of_lt_of_le dQ4 (by omega)); (try have dQ5 : _ < w'.heap.size := Nat.lt_of_lt_of_le dQ5 (by omega)); (try (have hnQ := Nat.lt_of_succ_le hz; first | (have _x := dQ0; first | (have _x := dQ1; first | (have _x := dQ2; first | (have _x := dQ3; first | (have _x := dQ4; have dQ5 := hnQ) | have dQ4 := hnQ) | have dQ3 := hnQ) | have dQ2 := hnQ) | have dQ1 := hnQ) | have dQ0 := hnQ)); (try (have hmQ := Nat.lt_of_succ_lt (Nat.lt_of_succ_le hz); first | (have _x := dQ0; first | (have _x := dQ1; first | (have _x := dQ2; first | (have _x := dQ3; first | (have _x := dQ4; have dQ5 := hmQ) | have dQ4 := hmQ) | have dQ3 := hmQ) | have dQ2 := hmQ) | have dQ1 := hmQ) | have dQ0 := hmQ))) | (go_at_call 125; (with_reducible refine (HN.out _).mono ?_); rintro e w' ⟨rfl, rfl⟩) | (go_at_call 125; (with_reducible refine (HS.out _).mono ?_); rintro e w' ⟨rfl, rfl⟩))
  obtain ⟨w3, rfl⟩ : ∃ w3 : World, w3 = w' := ⟨_, rfl⟩
  have HW3 := Lib.hid (show Below w.heap.size w w3 by (repeat' first | (with_reducible exact Below.refl _ _) | (with_reducible refine Below.alloc ?_ ?_ _) | (with_reducible refine Below.drew ?_) | (with_reducible refine Below.setCell ?_ ?_ _) | (with_reducible refine below_via (by assumption) ?_ ?_) | go_size))
  have hbox0 : ∀ j, w3.cell? ⟨w.heap.size, j, none⟩ = #[Value.int .i64 a, .int .i64 b, .int .i64 o][j]? := fun j => by rw [hc _ _ (by simp)]; simp
  clear hc hf
  go_loopw [3, 10, 11, 12] (fun sv pv v i wr => ∃ (k : Nat) (s' p' : Int) (out : List Ln), k ≤ N ∧ i = .int .i64 k ∧ sv = .int .i64 s' ∧ pv = .int .i64 p' ∧ Hid (mkRun a b o (N - k) ⟨s', p', out⟩ = F) ∧ Hid (posOk a b o p' = true) ∧ out.length ≤ k ∧ 0 ≤ s' ∧ s' ≤ 65536 ∧ Own ELine wr w3.heap.size v out ∧ Below w3.heap.size w3 wr) (fun _ _ _ i _ => N - (intOf i).toNat)
  case atStart => exact ⟨0, s, g, [], by omega, rfl, rfl, rfl, HF, H1, by simp, hs.1, hs.2, Own.emptyAny _ _ _ _, by (repeat' first | (with_reducible exact Below.refl _ _) | (with_reducible refine Below.alloc ?_ ?_ _) | (with_reducible refine Below.drew ?_) | (with_reducible refine Below.setCell ?_ ?_ _) | (with_reducible refine below_via (by assumption) ?_ ?_) | go_size)⟩
  case round =>
    obtain ⟨k, s', p', out, hk, rfl, rfl, rfl, hrun, hpo, hout, hs0, hs1, hown, hbw⟩ := hrel
    have hz5 := hbw.size
    have hbox : ∀ j, wr.cell? ⟨w.heap.size, j, none⟩ = #[Value.int .i64 a, .int .i64 b, .int .i64 o][j]? := fun j => (hbw.cell (by simp; omega)).trans (hbox0 j)
    have gW0 : w.heap.size < wr.heap.size := by omega
    by_cases hlt : k < N
    · have hpb := pos_lt hpo.out
      have hns := nextSeed_bd s'
      have HNS : Hid (∀ W, Calls Try.prog 46 #[.int .i64 s'] W fun e w' => e = .returned (.int .i64 (nextSeed s')) ∧ Below W.heap.size W w') := fun W => NextSeed_any s' W
      obtain ⟨U, hU⟩ : ∃ U, undosOf a b o p' = U := ⟨_, rfl⟩
      have HU := Lib.hid hU
      have HUL := undosOf_le a b o p'
      rw [hU] at HUL
      by_cases hne : U = []
      · have HE : Hid (F = ⟨s', p', out⟩) := by
          show _ = _
          rw [← hrun.out]
          exact mkRun_empty (by rw [hU, hne]) _
        subst hne
        clear hU
        generalize nextSeed s' = ns at *
        go_wp2_with fail
        refine (HNS.out _).mono ?_
        rintro e w' ⟨rfl, hb⟩
        have hown1 := hown.keep hb
        obtain ⟨hc, hf, hz, hy⟩ := bcell hb; clear hy; (try simp only [World.size_alloc, World.size_setCell, World.size_drew] at hz); (try have gQ0 : w.heap.size < w'.heap.size := by omega); (try have gQ1 : w.heap.size + 1 < w'.heap.size := by omega); (try have gQ2 : w.heap.size + 1 + 1 < w'.heap.size := by omega); (try have gQ3 : w.heap.size + 1 + 1 + 1 < w'.heap.size := by omega); (try have gQ4 : w.heap.size + 1 + 1 + 1 + 1 < w'.heap.size := by omega); (try have gQ5 : w.heap.size + 1 + 1 + 1 + 1 + 1 < w'.heap.size := by omega); (try have dQ0 : _ < w'.heap.size := Nat.lt_of_lt_of_le dQ0 (by omega)); (try have dQ1 : _ < w'.heap.size := Nat.lt_of_lt_of_le dQ1 (by omega)); (try have dQ2 : _ < w'.heap.size := Nat.lt_of_lt_of_le dQ2 (by omega)); (try have dQ3 : _ < w'.heap.size := Nat.lt_of_lt_of_le dQ3 (by omega)); (try have dQ4 : _ < w'.heap.size := Nat.lt_of_lt_of_le dQ4 (by omega)); (try have dQ5 : _ < w'.heap.size := Nat.lt_of_lt_of_le dQ5 (by omega)); (try (have hnQ := Nat.lt_of_succ_le hz; first | (have _x := dQ0; first | (have _x := dQ1; first | (have _x := dQ2; first | (have _x := dQ3; first | (have _x := dQ4; have dQ5 := hnQ) | have dQ4 := hnQ) | have dQ3 := hnQ) | have dQ2 := hnQ) | have dQ1 := hnQ) | have dQ0 := hnQ)); (try (have hmQ := Nat.lt_of_succ_lt (Nat.lt_of_succ_le hz); first | (have _x := dQ0; first | (have _x := dQ1; first | (have _x := dQ2; first | (have _x := dQ3; first | (have _x := dQ4; have dQ5 := hmQ) | have dQ4 := hmQ) | have dQ3 := hmQ) | have dQ2 := hmQ) | have dQ1 := hmQ) | have dQ0 := hmQ))
        go_wp2_with fail
        refine (UndosOf_any _ _ _ _ (by omega) _).mono ?_
        rintro e w' ⟨vU, rfl, hownU, hb⟩
        have hown2 := hown1.keep hb
        clear hown hown1
        rw [HU.out] at hownU
        obtain ⟨aU, capU, rfl, _, _⟩ := hownU.lineG
        clear hownU
        obtain ⟨hc, hf, hz, hy⟩ := bcell hb; clear hy; (try simp only [World.size_alloc, World.size_setCell, World.size_drew] at hz); (try have gQ0 : w.heap.size < w'.heap.size := by omega); (try have gQ1 : w.heap.size + 1 < w'.heap.size := by omega); (try have gQ2 : w.heap.size + 1 + 1 < w'.heap.size := by omega); (try have gQ3 : w.heap.size + 1 + 1 + 1 < w'.heap.size := by omega); (try have gQ4 : w.heap.size + 1 + 1 + 1 + 1 < w'.heap.size := by omega); (try have gQ5 : w.heap.size + 1 + 1 + 1 + 1 + 1 < w'.heap.size := by omega); (try have dQ0 : _ < w'.heap.size := Nat.lt_of_lt_of_le dQ0 (by omega)); (try have dQ1 : _ < w'.heap.size := Nat.lt_of_lt_of_le dQ1 (by omega)); (try have dQ2 : _ < w'.heap.size := Nat.lt_of_lt_of_le dQ2 (by omega)); (try have dQ3 : _ < w'.heap.size := Nat.lt_of_lt_of_le dQ3 (by omega)); (try have dQ4 : _ < w'.heap.size := Nat.lt_of_lt_of_le dQ4 (by omega)); (try have dQ5 : _ < w'.heap.size := Nat.lt_of_lt_of_le dQ5 (by omega)); (try (have hnQ := Nat.lt_of_succ_le hz; first | (have _x := dQ0; first | (have _x := dQ1; first | (have _x := dQ2; first | (have _x := dQ3; first | (have _x := dQ4; have dQ5 := hnQ) | have dQ4 := hnQ) | have dQ3 := hnQ) | have dQ2 := hnQ) | have dQ1 := hnQ) | have dQ0 := hnQ)); (try (have hmQ := Nat.lt_of_succ_lt (Nat.lt_of_succ_le hz); first | (have _x := dQ0; first | (have _x := dQ1; first | (have _x := dQ2; first | (have _x := dQ3; first | (have _x := dQ4; have dQ5 := hmQ) | have dQ4 := hmQ) | have dQ3 := hmQ) | have dQ2 := hmQ) | have dQ1 := hmQ) | have dQ0 := hmQ))
        go_wp2_with fail
        refine (TurnGame_any _ _ (by omega) _ hown2).mono ?_
        rintro e w' ⟨vR, rfl, hownR, hb⟩
        obtain ⟨hc, hf, hz, hy⟩ := bcell hb; clear hy; (try simp only [World.size_alloc, World.size_setCell, World.size_drew] at hz); (try have gQ0 : w.heap.size < w'.heap.size := by omega); (try have gQ1 : w.heap.size + 1 < w'.heap.size := by omega); (try have gQ2 : w.heap.size + 1 + 1 < w'.heap.size := by omega); (try have gQ3 : w.heap.size + 1 + 1 + 1 < w'.heap.size := by omega); (try have gQ4 : w.heap.size + 1 + 1 + 1 + 1 < w'.heap.size := by omega); (try have gQ5 : w.heap.size + 1 + 1 + 1 + 1 + 1 < w'.heap.size := by omega); (try have dQ0 : _ < w'.heap.size := Nat.lt_of_lt_of_le dQ0 (by omega)); (try have dQ1 : _ < w'.heap.size := Nat.lt_of_lt_of_le dQ1 (by omega)); (try have dQ2 : _ < w'.heap.size := Nat.lt_of_lt_of_le dQ2 (by omega)); (try have dQ3 : _ < w'.heap.size := Nat.lt_of_lt_of_le dQ3 (by omega)); (try have dQ4 : _ < w'.heap.size := Nat.lt_of_lt_of_le dQ4 (by omega)); (try have dQ5 : _ < w'.heap.size := Nat.lt_of_lt_of_le dQ5 (by omega)); (try (have hnQ := Nat.lt_of_succ_le hz; first | (have _x := dQ0; first | (have _x := dQ1; first | (have _x := dQ2; first | (have _x := dQ3; first | (have _x := dQ4; have dQ5 := hnQ) | have dQ4 := hnQ) | have dQ3 := hnQ) | have dQ2 := hnQ) | have dQ1 := hnQ) | have dQ0 := hnQ)); (try (have hmQ := Nat.lt_of_succ_lt (Nat.lt_of_succ_le hz); first | (have _x := dQ0; first | (have _x := dQ1; first | (have _x := dQ2; first | (have _x := dQ3; first | (have _x := dQ4; have dQ5 := hmQ) | have dQ4 := hmQ) | have dQ3 := hmQ) | have dQ2 := hmQ) | have dQ1 := hmQ) | have dQ0 := hmQ))
        go_wp2_with fail
        go_ret2
        exact ⟨vR, by rw [HR.out, HE.out]; rfl, by rw [HR.out, HE.out]; exact hownR.mono (by omega), HW3.out.trans ((show Below w3.heap.size w3 _ by (repeat' first | (with_reducible exact Below.refl _ _) | (with_reducible refine Below.alloc ?_ ?_ _) | (with_reducible refine Below.drew ?_) | (with_reducible refine Below.setCell ?_ ?_ _) | (with_reducible refine below_via (by assumption) ?_ ?_) | go_size)).mono (by omega))⟩
      · have hl : 0 < U.length := List.length_pos_iff.2 hne
        have hin : mkLn a b o ⟨s', p', out⟩ ∈ undosOf a b o p' := mkLn_in (m := ⟨s', p', out⟩) (by rw [hU]; exact hne)
        have hstep := mkRun_step (m := ⟨s', p', out⟩) (by rw [hU]; exact hne) (N - (k + 1))
        rw [show N - (k + 1) + 1 = N - k from by omega, hrun.out] at hstep
        obtain ⟨q0, q1, q2⟩ := undosOf_in hin
        have hdo : doOk true a b o p' (mkLn a b o ⟨s', p', out⟩) = true := by
          simp [doOk, q0, can, q2, isLn_of q1]
        have hto : doTo true a b o p' (mkLn a b o ⟨s', p', out⟩) = flip p' (mkLn a b o ⟨s', p', out⟩) := by simp [doTo, hdo]
        have HUJ : Hid (∀ W, Calls Try.prog 128 #[.agg #[.int .i64 a, .int .i64 b, .int .i64 o], .int .i64 p', .agg #[.int .i64 (mkLn a b o ⟨s', p', out⟩).f, .int .i64 (mkLn a b o ⟨s', p', out⟩).o, .int .i64 (mkLn a b o ⟨s', p', out⟩).t]] W fun e w' => e = .returned (.tuple #[.int .i64 (flip p' (mkLn a b o ⟨s', p', out⟩)), .bool true]) ∧ Below W.heap.size W w') := fun W => by
          have := UndoJump_any a b o p' (mkLn a b o ⟨s', p', out⟩) (by omega) W
          rwa [hdo, hto] at this
        have HPN := Lib.hid (posOk_flip q0 q1)
        have HM : Hid (gD U Ln0 (nextSeed s' % (U.length : Int)).toNat = mkLn a b o ⟨s', p', out⟩) := by show _ = _; rw [← hU]; rfl
        have HN2 : Hid (mkRun a b o (N - (k + 1)) ⟨nextSeed s', flip p' (mkLn a b o ⟨s', p', out⟩), out ++ [mkLn a b o ⟨s', p', out⟩]⟩ = F) := hstep.symm
        obtain ⟨ix, hix⟩ : ∃ ix : Nat, nextSeed s' % (U.length : Int) = ix := ⟨_, (Int.toNat_of_nonneg (Int.emod_nonneg _ (by omega))).symm⟩
        have hixl : ix < U.length := by have := Int.emod_lt_of_pos (nextSeed s') (show (0 : Int) < U.length by omega); omega
        rw [hix, Int.toNat_natCast] at HM
        clear hU hne hin hstep q0 q1 q2 hdo hto
        generalize mkLn a b o ⟨s', p', out⟩ = x at *
        generalize flip p' x = p2 at *
        generalize nextSeed s' = ns at *
        go_wp2_with fail
        refine (HNS.out _).mono ?_
        rintro e w' ⟨rfl, hb⟩
        have hown1 := hown.keep hb
        obtain ⟨hc, hf, hz, hy⟩ := bcell hb; clear hy; (try simp only [World.size_alloc, World.size_setCell, World.size_drew] at hz); (try have gQ0 : w.heap.size < w'.heap.size := by omega); (try have gQ1 : w.heap.size + 1 < w'.heap.size := by omega); (try have gQ2 : w.heap.size + 1 + 1 < w'.heap.size := by omega); (try have gQ3 : w.heap.size + 1 + 1 + 1 < w'.heap.size := by omega); (try have gQ4 : w.heap.size + 1 + 1 + 1 + 1 < w'.heap.size := by omega); (try have gQ5 : w.heap.size + 1 + 1 + 1 + 1 + 1 < w'.heap.size := by omega); (try have dQ0 : _ < w'.heap.size := Nat.lt_of_lt_of_le dQ0 (by omega)); (try have dQ1 : _ < w'.heap.size := Nat.lt_of_lt_of_le dQ1 (by omega)); (try have dQ2 : _ < w'.heap.size := Nat.lt_of_lt_of_le dQ2 (by omega)); (try have dQ3 : _ < w'.heap.size := Nat.lt_of_lt_of_le dQ3 (by omega)); (try have dQ4 : _ < w'.heap.size := Nat.lt_of_lt_of_le dQ4 (by omega)); (try have dQ5 : _ < w'.heap.size := Nat.lt_of_lt_of_le dQ5 (by omega)); (try (have hnQ := Nat.lt_of_succ_le hz; first | (have _x := dQ0; first | (have _x := dQ1; first | (have _x := dQ2; first | (have _x := dQ3; first | (have _x := dQ4; have dQ5 := hnQ) | have dQ4 := hnQ) | have dQ3 := hnQ) | have dQ2 := hnQ) | have dQ1 := hnQ) | have dQ0 := hnQ)); (try (have hmQ := Nat.lt_of_succ_lt (Nat.lt_of_succ_le hz); first | (have _x := dQ0; first | (have _x := dQ1; first | (have _x := dQ2; first | (have _x := dQ3; first | (have _x := dQ4; have dQ5 := hmQ) | have dQ4 := hmQ) | have dQ3 := hmQ) | have dQ2 := hmQ) | have dQ1 := hmQ) | have dQ0 := hmQ))
        go_wp2_with fail
        refine (UndosOf_any _ _ _ _ (by omega) _).mono ?_
        rintro e w' ⟨vU, rfl, hownU, hb⟩
        have hown2 := hown1.keep hb
        clear hown hown1
        rw [HU.out] at hownU
        obtain ⟨aU, capU, rfl, _, hgetU⟩ := hownU.lineG
        clear hownU
        obtain ⟨bU, rfl, _, hbU, hc0, hc1, hc2⟩ := hgetU ix hixl
        rw [HM.out] at hc0 hc1 hc2
        clear hgetU
        obtain ⟨hc, hf, hz, hy⟩ := bcell hb; clear hy; (try simp only [World.size_alloc, World.size_setCell, World.size_drew] at hz); (try have gQ0 : w.heap.size < w'.heap.size := by omega); (try have gQ1 : w.heap.size + 1 < w'.heap.size := by omega); (try have gQ2 : w.heap.size + 1 + 1 < w'.heap.size := by omega); (try have gQ3 : w.heap.size + 1 + 1 + 1 < w'.heap.size := by omega); (try have gQ4 : w.heap.size + 1 + 1 + 1 + 1 < w'.heap.size := by omega); (try have gQ5 : w.heap.size + 1 + 1 + 1 + 1 + 1 < w'.heap.size := by omega); (try have dQ0 : _ < w'.heap.size := Nat.lt_of_lt_of_le dQ0 (by omega)); (try have dQ1 : _ < w'.heap.size := Nat.lt_of_lt_of_le dQ1 (by omega)); (try have dQ2 : _ < w'.heap.size := Nat.lt_of_lt_of_le dQ2 (by omega)); (try have dQ3 : _ < w'.heap.size := Nat.lt_of_lt_of_le dQ3 (by omega)); (try have dQ4 : _ < w'.heap.size := Nat.lt_of_lt_of_le dQ4 (by omega)); (try have dQ5 : _ < w'.heap.size := Nat.lt_of_lt_of_le dQ5 (by omega)); (try (have hnQ := Nat.lt_of_succ_le hz; first | (have _x := dQ0; first | (have _x := dQ1; first | (have _x := dQ2; first | (have _x := dQ3; first | (have _x := dQ4; have dQ5 := hnQ) | have dQ4 := hnQ) | have dQ3 := hnQ) | have dQ2 := hnQ) | have dQ1 := hnQ) | have dQ0 := hnQ)); (try (have hmQ := Nat.lt_of_succ_lt (Nat.lt_of_succ_le hz); first | (have _x := dQ0; first | (have _x := dQ1; first | (have _x := dQ2; first | (have _x := dQ3; first | (have _x := dQ4; have dQ5 := hmQ) | have dQ4 := hmQ) | have dQ3 := hmQ) | have dQ2 := hmQ) | have dQ1 := hmQ) | have dQ0 := hmQ))
        have hown3 := hown2.alloc (.cells #[.int .i64 x.f, .int .i64 x.o, .int .i64 x.t] 51)
        clear hown2
        go_wp2_with fail
        refine (HUJ.out _).mono ?_
        rintro e w' ⟨rfl, hb⟩
        have hown4 := hown3.keep hb
        clear hown3
        obtain ⟨hc, hf, hz, hy⟩ := bcell hb; clear hy; (try simp only [World.size_alloc, World.size_setCell, World.size_drew] at hz); (try have gQ0 : w.heap.size < w'.heap.size := by omega); (try have gQ1 : w.heap.size + 1 < w'.heap.size := by omega); (try have gQ2 : w.heap.size + 1 + 1 < w'.heap.size := by omega); (try have gQ3 : w.heap.size + 1 + 1 + 1 < w'.heap.size := by omega); (try have gQ4 : w.heap.size + 1 + 1 + 1 + 1 < w'.heap.size := by omega); (try have gQ5 : w.heap.size + 1 + 1 + 1 + 1 + 1 < w'.heap.size := by omega); (try have dQ0 : _ < w'.heap.size := Nat.lt_of_lt_of_le dQ0 (by omega)); (try have dQ1 : _ < w'.heap.size := Nat.lt_of_lt_of_le dQ1 (by omega)); (try have dQ2 : _ < w'.heap.size := Nat.lt_of_lt_of_le dQ2 (by omega)); (try have dQ3 : _ < w'.heap.size := Nat.lt_of_lt_of_le dQ3 (by omega)); (try have dQ4 : _ < w'.heap.size := Nat.lt_of_lt_of_le dQ4 (by omega)); (try have dQ5 : _ < w'.heap.size := Nat.lt_of_lt_of_le dQ5 (by omega)); (try (have hnQ := Nat.lt_of_succ_le hz; first | (have _x := dQ0; first | (have _x := dQ1; first | (have _x := dQ2; first | (have _x := dQ3; first | (have _x := dQ4; have dQ5 := hnQ) | have dQ4 := hnQ) | have dQ3 := hnQ) | have dQ2 := hnQ) | have dQ1 := hnQ) | have dQ0 := hnQ)); (try (have hmQ := Nat.lt_of_succ_lt (Nat.lt_of_succ_le hz); first | (have _x := dQ0; first | (have _x := dQ1; first | (have _x := dQ2; first | (have _x := dQ3; first | (have _x := dQ4; have dQ5 := hmQ) | have dQ4 := hmQ) | have dQ3 := hmQ) | have dQ2 := hmQ) | have dQ1 := hmQ) | have dQ0 := hmQ))
        have hB4 : Below w3.heap.size w3 w' := by (repeat' first | (with_reducible exact Below.refl _ _) | (with_reducible refine Below.alloc ?_ ?_ _) | (with_reducible refine Below.drew ?_) | (with_reducible refine Below.setCell ?_ ?_ _) | (with_reducible refine below_via (by assumption) ?_ ?_) | go_size)
        go_wp2_with (at_builtin; (refine append1 (E := ELine) (l := out) rfl rfl _ _ 32 rfl Try.underlying32 rfl hown4 x rfl (by omega) (by omega) ?_); intro v' w2 hown5 hb5 hg5)
        go_roundw
        case rel => exact ⟨k + 1, ns, p2, out ++ [x], by omega, by go_num, rfl, rfl, HN2, HPN, by simp; omega, hns.1, hns.2, hown5, hB4.trans hb5⟩
        case measure => simp [intOf]; omega
    · obtain rfl : k = N := by omega
      have HE : Hid (F = ⟨s', p', out⟩) := by
        show _ = _
        rw [← hrun.out, Nat.sub_self]; rfl
      go_wp2_with fail
      refine (TurnGame_any _ _ (by omega) _ hown).mono ?_
      rintro e w' ⟨vR, rfl, hownR, hb⟩
      obtain ⟨hc, hf, hz, hy⟩ := bcell hb; clear hy; (try simp only [World.size_alloc, World.size_setCell, World.size_drew] at hz); (try have gQ0 : w.heap.size < w'.heap.size := by omega); (try have gQ1 : w.heap.size + 1 < w'.heap.size := by omega); (try have gQ2 : w.heap.size + 1 + 1 < w'.heap.size := by omega); (try have gQ3 : w.heap.size + 1 + 1 + 1 < w'.heap.size := by omega); (try have gQ4 : w.heap.size + 1 + 1 + 1 + 1 < w'.heap.size := by omega); (try have gQ5 : w.heap.size + 1 + 1 + 1 + 1 + 1 < w'.heap.size := by omega); (try have dQ0 : _ < w'.heap.size := Nat.lt_of_lt_of_le dQ0 (by omega)); (try have dQ1 : _ < w'.heap.size := Nat.lt_of_lt_of_le dQ1 (by omega)); (try have dQ2 : _ < w'.heap.size := Nat.lt_of_lt_of_le dQ2 (by omega)); (try have dQ3 : _ < w'.heap.size := Nat.lt_of_lt_of_le dQ3 (by omega)); (try have dQ4 : _ < w'.heap.size := Nat.lt_of_lt_of_le dQ4 (by omega)); (try have dQ5 : _ < w'.heap.size := Nat.lt_of_lt_of_le dQ5 (by omega)); (try (have hnQ := Nat.lt_of_succ_le hz; first | (have _x := dQ0; first | (have _x := dQ1; first | (have _x := dQ2; first | (have _x := dQ3; first | (have _x := dQ4; have dQ5 := hnQ) | have dQ4 := hnQ) | have dQ3 := hnQ) | have dQ2 := hnQ) | have dQ1 := hnQ) | have dQ0 := hnQ)); (try (have hmQ := Nat.lt_of_succ_lt (Nat.lt_of_succ_le hz); first | (have _x := dQ0; first | (have _x := dQ1; first | (have _x := dQ2; first | (have _x := dQ3; first | (have _x := dQ4; have dQ5 := hmQ) | have dQ4 := hmQ) | have dQ3 := hmQ) | have dQ2 := hmQ) | have dQ1 := hmQ) | have dQ0 := hmQ))
      go_wp2_with fail
      go_ret2
      exact ⟨vR, by rw [HR.out, HE.out]; rfl, by rw [HR.out, HE.out]; exact hownR.mono (by omega), HW3.out.trans ((show Below w3.heap.size w3 _ by (repeat' first | (with_reducible exact Below.refl _ _) | (with_reducible refine Below.alloc ?_ ?_ _) | (with_reducible refine Below.drew ?_) | (with_reducible refine Below.setCell ?_ ?_ _) | (with_reducible refine below_via (by assumption) ?_ ?_) | go_size)).mono (by omega))⟩
set_option maxHeartbeats 2000000 in
set_option maxRecDepth 100000 in
theorem sMakeGame_any (a b o g n s : Int) (hg : g ≤ 9223372036854775807) (w : World) :
    Calls Try.prog 132 #[.agg #[.int .i64 a, .int .i64 b, .int .i64 o], .int .i64 g, .int .i64 n, .int .i64 s] w (RetGame w (makeGame a b o g n s)) := by
  have HPO : Hid (∀ W, Calls Try.prog 106 #[.agg #[.int .i64 a, .int .i64 b, .int .i64 o], .int .i64 g] W fun e w' => e = .returned (.bool (posOk a b o g)) ∧ Below W.heap.size W w') := fun W => sPositionOk_any a b o g hg W
  have HN : Hid (∀ W, Calls Try.prog 133 #[.int .i64 n, .int .i64 0, .int .i64 40] W fun e w' => e = .returned (.bool (inR n 0 40)) ∧ W = w') := fun W => l01In_any n 0 40 W
  have HS : Hid (∀ W, Calls Try.prog 133 #[.int .i64 s, .int .i64 0, .int .i64 65536] W fun e w' => e = .returned (.bool (inR s 0 65536)) ∧ W = w') := fun W => l01In_any s 0 65536 W
  by_cases hok : makeOk a b o g n s = true
  rotate_left
  · rw [show makeGame a b o g n s = ([], g) from by simp [makeGame, hok]]
    simp only [makeOk] at hok
    cases h1 : posOk a b o g
    · rw [h1] at HPO; clear hok h1
      go_enter Try.func132, Try.ntmps132
      go_wp2_with (go_at_call 106; refine (HPO.out _).mono ?_; rintro e w' ⟨rfl, hb⟩; obtain ⟨hc, hf, hz, hy⟩ := bcell hb; clear hy; (try simp only [World.size_alloc, World.size_setCell, World.size_drew] at hz); (try have gQ0 : w.heap.size < w'.heap.size := by omega); (try have gQ1 : w.heap.size + 1 < w'.heap.size := by omega); (try have gQ2 : w.heap.size + 1 + 1 < w'.heap.size := by omega); (try have gQ3 : w.heap.size + 1 + 1 + 1 < w'.heap.size := by omega); (try have gQ4 : w.heap.size + 1 + 1 + 1 + 1 < w'.heap.size := by omega); (try have gQ5 : w.heap.size + 1 + 1 + 1 + 1 + 1 < w'.heap.size := by omega); (try have dQ0 : _ < w'.heap.size := Nat.lt_of_lt_of_le dQ0 (by omega)); (try have dQ1 : _ < w'.heap.size := Nat.lt_of_lt_of_le dQ1 (by omega)); (try have dQ2 : _ < w'.heap.size := Nat.lt_of_lt_of_le dQ2 (by omega)); (try have dQ3 : _ < w'.heap.size := Nat.lt_of_lt_of_le dQ3 (by omega)); (try have dQ4 : _ < w'.heap.size := Nat.lt_of_lt_of_le dQ4 (by omega)); (try have dQ5 : _ < w'.heap.size := Nat.lt_of_lt_of_le dQ5 (by omega)); (try (have hnQ := Nat.lt_of_succ_le hz; first | (have _x := dQ0; first | (have _x := dQ1; first | (have _x := dQ2; first | (have _x := dQ3; first | (have _x := dQ4; have dQ5 := hnQ) | have dQ4 := hnQ) | have dQ3 := hnQ) | have dQ2 := hnQ) | have dQ1 := hnQ) | have dQ0 := hnQ)); (try (have hmQ := Nat.lt_of_succ_lt (Nat.lt_of_succ_le hz); first | (have _x := dQ0; first | (have _x := dQ1; first | (have _x := dQ2; first | (have _x := dQ3; first | (have _x := dQ4; have dQ5 := hmQ) | have dQ4 := hmQ) | have dQ3 := hmQ) | have dQ2 := hmQ) | have dQ1 := hmQ) | have dQ0 := hmQ)))
      all_goals go_ret2
      all_goals exact ⟨_, rfl, Own.emptyAny _ _ _ _, by (repeat' first | (with_reducible exact Below.refl _ _) | (with_reducible refine Below.alloc ?_ ?_ _) | (with_reducible refine Below.drew ?_) | (with_reducible refine Below.setCell ?_ ?_ _) | (with_reducible refine below_via (by assumption) ?_ ?_) | go_size)⟩
    cases h2 : inR n 0 40
    · rw [h1] at HPO; rw [h2] at HN; clear hok h1 h2
      go_enter Try.func132, Try.ntmps132
      go_wp2_with (first | (go_at_call 106; refine (HPO.out _).mono ?_; rintro e w' ⟨rfl, hb⟩; obtain ⟨hc, hf, hz, hy⟩ := bcell hb; clear hy; (try simp only [World.size_alloc, World.size_setCell, World.size_drew] at hz); (try have gQ0 : w.heap.size < w'.heap.size := by omega); (try have gQ1 : w.heap.size + 1 < w'.heap.size := by omega); (try have gQ2 : w.heap.size + 1 + 1 < w'.heap.size := by omega); (try have gQ3 : w.heap.size + 1 + 1 + 1 < w'.heap.size := by omega); (try have gQ4 : w.heap.size + 1 + 1 + 1 + 1 < w'.heap.size := by omega); (try have gQ5 : w.heap.size + 1 + 1 + 1 + 1 + 1 < w'.heap.size := by omega); (try have dQ0 : _ < w'.heap.size := Nat.lt_of_lt_of_le dQ0 (by omega)); (try have dQ1 : _ < w'.heap.size := Nat.lt_of_lt_of_le dQ1 (by omega)); (try have dQ2 : _ < w'.heap.size := Nat.lt_of_lt_of_le dQ2 (by omega)); (try have dQ3 : _ < w'.heap.size := Nat.lt_of_lt_of_le dQ3 (by omega)); (try have dQ4 : _ < w'.heap.size := Nat.lt_of_lt_of_le dQ4 (by omega)); (try have dQ5 : _ < w'.heap.size := Nat.lt_of_lt_of_le dQ5 (by omega)); (try (have hnQ := Nat.lt_of_succ_le hz; first | (have _x := dQ0; first | (have _x := dQ1; first | (have _x := dQ2; first | (have _x := dQ3; first | (have _x := dQ4; have dQ5 := hnQ) | have dQ4 := hnQ) | have dQ3 := hnQ) | have dQ2 := hnQ) | have dQ1 := hnQ) | have dQ0 := hnQ)); (try (have hmQ := Nat.lt_of_succ_lt (Nat.lt_of_succ_le hz); first | (have _x := dQ0; first | (have _x := dQ1; first | (have _x := dQ2; first | (have _x := dQ3; first | (have _x := dQ4; have dQ5 := hmQ) | have dQ4 := hmQ) | have dQ3 := hmQ) | have dQ2 := hmQ) | have dQ1 := hmQ) | have dQ0 := hmQ))) | (go_at_call 133; (with_reducible refine (HN.out _).mono ?_); rintro e w' ⟨rfl, rfl⟩))
      all_goals go_ret2
      all_goals exact ⟨_, rfl, Own.emptyAny _ _ _ _, by (repeat' first | (with_reducible exact Below.refl _ _) | (with_reducible refine Below.alloc ?_ ?_ _) | (with_reducible refine Below.drew ?_) | (with_reducible refine Below.setCell ?_ ?_ _) | (with_reducible refine below_via (by assumption) ?_ ?_) | go_size)⟩
    have h3 : inR s 0 65536 = false := by simpa [h1, h2] using hok
    rw [h1] at HPO; rw [h2] at HN; rw [h3] at HS; clear hok h1 h2 h3
    go_enter Try.func132, Try.ntmps132
    go_wp2_with (first | (go_at_call 106; refine (HPO.out _).mono ?_; rintro e w' ⟨rfl, hb⟩; obtain ⟨hc, hf, hz, hy⟩ := bcell hb; clear hy; (try simp only [World.size_alloc, World.size_setCell, World.size_drew] at hz); (try have gQ0 : w.heap.size < w'.heap.size := by omega); (try have gQ1 : w.heap.size + 1 < w'.heap.size := by omega); (try have gQ2 : w.heap.size + 1 + 1 < w'.heap.size := by omega); (try have gQ3 : w.heap.size + 1 + 1 + 1 < w'.heap.size := by omega); (try have gQ4 : w.heap.size + 1 + 1 + 1 + 1 < w'.heap.size := by omega); (try have gQ5 : w.heap.size + 1 + 1 + 1 + 1 + 1 < w'.heap.size := by omega); (try have dQ0 : _ < w'.heap.size := Nat.lt_of_lt_of_le dQ0 (by omega)); (try have dQ1 : _ < w'.heap.size := Nat.lt_of_lt_of_le dQ1 (by omega)); (try have dQ2 : _ < w'.heap.size := Nat.lt_of_lt_of_le dQ2 (by omega)); (try have dQ3 : _ < w'.heap.size := Nat.lt_of_lt_of_le dQ3 (by omega)); (try have dQ4 : _ < w'.heap.size := Nat.lt_of_lt_of_le dQ4 (by omega)); (try have dQ5 : _ < w'.heap.size := Nat.lt_of_lt_of_le dQ5 (by omega)); (try (have hnQ := Nat.lt_of_succ_le hz; first | (have _x := dQ0; first | (have _x := dQ1; first | (have _x := dQ2; first | (have _x := dQ3; first | (have _x := dQ4; have dQ5 := hnQ) | have dQ4 := hnQ) | have dQ3 := hnQ) | have dQ2 := hnQ) | have dQ1 := hnQ) | have dQ0 := hnQ)); (try (have hmQ := Nat.lt_of_succ_lt (Nat.lt_of_succ_le hz); first | (have _x := dQ0; first | (have _x := dQ1; first | (have _x := dQ2; first | (have _x := dQ3; first | (have _x := dQ4; have dQ5 := hmQ) | have dQ4 := hmQ) | have dQ3 := hmQ) | have dQ2 := hmQ) | have dQ1 := hmQ) | have dQ0 := hmQ))) | (go_at_call 133; (with_reducible refine (HN.out _).mono ?_); rintro e w' ⟨rfl, rfl⟩) | (go_at_call 133; (with_reducible refine (HS.out _).mono ?_); rintro e w' ⟨rfl, rfl⟩))
    all_goals go_ret2
    all_goals exact ⟨_, rfl, Own.emptyAny _ _ _ _, by (repeat' first | (with_reducible exact Below.refl _ _) | (with_reducible refine Below.alloc ?_ ?_ _) | (with_reducible refine Below.drew ?_) | (with_reducible refine Below.setCell ?_ ?_ _) | (with_reducible refine below_via (by assumption) ?_ ?_) | go_size)⟩
  obtain ⟨⟨h1, h2⟩, h3⟩ : (posOk a b o g = true ∧ inR n 0 40 = true) ∧ inR s 0 65536 = true := by simpa [makeOk] using hok
  have hn := inR_iff.1 h2
  have hs := inR_iff.1 h3
  rw [h1] at HPO; rw [h2] at HN; rw [h3] at HS
  obtain ⟨N, rfl⟩ : ∃ N : Nat, n = N := ⟨n.toNat, by omega⟩
  obtain ⟨F, hF⟩ : ∃ F, mkRun a b o N ⟨s, g, []⟩ = F := ⟨_, rfl⟩
  have HR : Hid (makeGame a b o g N s = (F.out.reverse, F.p)) := by show _ = _; rw [← hF]; simp [makeGame, hok]
  generalize makeGame a b o g N s = G at *
  have HF := Lib.hid hF
  have H1 := Lib.hid h1
  clear hok h1 h2 h3 hF
  go_enter Try.func132, Try.ntmps132
  go_wp2_with (first | (go_at_call 106; refine (HPO.out _).mono ?_; rintro e w' ⟨rfl, hb⟩; obtain ⟨hc, hf, hz, hy⟩ := bcell hb; clear hy; (try simp only [World.size_alloc, World.size_setCell, World.size_drew] at hz); (try have gQ0 : w.heap.size < w'.heap.size := by omega); (try have gQ1 : w.heap.size + 1 < w'.heap.size := by omega); (try have gQ2 : w.heap.size + 1 + 1 < w'.heap.size := by omega); (try have gQ3 : w.heap.size + 1 + 1 + 1 < w'.heap.size := by omega); (try have gQ4 : w.heap.size + 1 + 1 + 1 + 1 < w'.heap.size := by omega); (try have gQ5 : w.heap.size + 1 + 1 + 1 + 1 + 1 < w'.heap.size := by omega); (try have dQ0 : _ < w'.heap.size := Nat.lt_of_lt_of_le dQ0 (by omega)); (try have dQ1 : _ < w'.heap.size := Nat.lt_of_lt_of_le dQ1 (by omega)); (try have dQ2 : _ < w'.heap.size := Nat.lt_of_lt_of_le dQ2 (by omega)); (try have dQ3 : _ < w'.heap.size := Nat.lt_of_lt_of_le dQ3 (by omega)); (try have dQ4 : _ < w'.heap.size := Nat.lt_of_lt_of_le dQ4 (by omega)); (try have dQ5 : _ < w'.heap.size := Nat.lt_of_lt_of_le dQ5 (by omega)); (try (have hnQ := Nat.lt_of_succ_le hz; first | (have _x := dQ0; first | (have _x := dQ1; first | (have _x := dQ2; first | (have _x := dQ3; first | (have _x := dQ4; have dQ5 := hnQ) | have dQ4 := hnQ) | have dQ3 := hnQ) | have dQ2 := hnQ) | have dQ1 := hnQ) | have dQ0 := hnQ)); (try (have hmQ := Nat.lt_of_succ_lt (Nat.lt_of_succ_le hz); first | (have _x := dQ0; first | (have _x := dQ1; first | (have _x := dQ2; first | (have _x := dQ3; first | (have _x := dQ4; have dQ5 := hmQ) | have dQ4 := hmQ) | have dQ3 := hmQ) | have dQ2 := hmQ) | have dQ1 := hmQ) | have dQ0 := hmQ))) | (go_at_call 133; (with_reducible refine (HN.out _).mono ?_); rintro e w' ⟨rfl, rfl⟩) | (go_at_call 133; (with_reducible refine (HS.out _).mono ?_); rintro e w' ⟨rfl, rfl⟩))
  obtain ⟨w3, rfl⟩ : ∃ w3 : World, w3 = w' := ⟨_, rfl⟩
  have HW3 := Lib.hid (show Below w.heap.size w w3 by (repeat' first | (with_reducible exact Below.refl _ _) | (with_reducible refine Below.alloc ?_ ?_ _) | (with_reducible refine Below.drew ?_) | (with_reducible refine Below.setCell ?_ ?_ _) | (with_reducible refine below_via (by assumption) ?_ ?_) | go_size))
  have hbox0 : ∀ j, w3.cell? ⟨w.heap.size, j, none⟩ = #[Value.int .i64 a, .int .i64 b, .int .i64 o][j]? := fun j => by rw [hc _ _ (by simp; omega)]; simp
  clear hc hf
  go_loopw [3, 10, 11, 12] (fun sv v pv i wr => ∃ (k : Nat) (s' p' : Int) (out : List Ln), k ≤ N ∧ i = .int .i64 k ∧ sv = .int .i64 s' ∧ pv = .int .i64 p' ∧ Hid (mkRun a b o (N - k) ⟨s', p', out⟩ = F) ∧ Hid (posOk a b o p' = true) ∧ out.length ≤ k ∧ 0 ≤ s' ∧ s' ≤ 65536 ∧ Own ELine wr w3.heap.size v out.reverse ∧ Below w3.heap.size w3 wr) (fun _ _ _ i _ => N - (intOf i).toNat)
  case atStart => exact ⟨0, s, g, [], by omega, rfl, rfl, rfl, HF, H1, by simp, hs.1, hs.2, Own.emptyAny _ _ _ _, by (repeat' first | (with_reducible exact Below.refl _ _) | (with_reducible refine Below.alloc ?_ ?_ _) | (with_reducible refine Below.drew ?_) | (with_reducible refine Below.setCell ?_ ?_ _) | (with_reducible refine below_via (by assumption) ?_ ?_) | go_size)⟩
  case round =>
    obtain ⟨k, s', p', out, hk, rfl, rfl, rfl, hrun, hpo, hout, hs0, hs1, hown, hbw⟩ := hrel
    have hz5 := hbw.size
    have hbox : ∀ j, wr.cell? ⟨w.heap.size, j, none⟩ = #[Value.int .i64 a, .int .i64 b, .int .i64 o][j]? := fun j => (hbw.cell (by simp; omega)).trans (hbox0 j)
    have gW0 : w.heap.size < wr.heap.size := by omega
    by_cases hlt : k < N
    · have hpb := pos_lt hpo.out
      have hns := nextSeed_bd s'
      have HNS : Hid (∀ W, Calls Try.prog 191 #[.int .i64 s'] W fun e w' => e = .returned (.int .i64 (nextSeed s')) ∧ Below W.heap.size W w') := fun W => sNextSeed_any s' W
      obtain ⟨U, hU⟩ : ∃ U, undosOf a b o p' = U := ⟨_, rfl⟩
      have HU := Lib.hid hU
      have HUL := undosOf_le a b o p'
      rw [hU] at HUL
      by_cases hne : U = []
      · have HE : Hid (F = ⟨s', p', out⟩) := by
          show _ = _
          rw [← hrun.out]
          exact mkRun_empty (by rw [hU, hne]) _
        subst hne
        clear hU
        generalize nextSeed s' = ns at *
        go_wp2_with fail
        refine (sUndosOf_any _ _ _ _ (by omega) _).mono ?_
        rintro e w' ⟨vU, rfl, hownU, hb⟩
        have hown2 := hown.keep hb
        clear hown
        rw [HU.out] at hownU
        obtain ⟨aU, capU, rfl, _, _⟩ := hownU.lineG
        clear hownU
        obtain ⟨hc, hf, hz, hy⟩ := bcell hb; clear hy; (try simp only [World.size_alloc, World.size_setCell, World.size_drew] at hz); (try have gQ0 : w.heap.size < w'.heap.size := by omega); (try have gQ1 : w.heap.size + 1 < w'.heap.size := by omega); (try have gQ2 : w.heap.size + 1 + 1 < w'.heap.size := by omega); (try have gQ3 : w.heap.size + 1 + 1 + 1 < w'.heap.size := by omega); (try have gQ4 : w.heap.size + 1 + 1 + 1 + 1 < w'.heap.size := by omega); (try have gQ5 : w.heap.size + 1 + 1 + 1 + 1 + 1 < w'.heap.size := by omega); (try have dQ0 : _ < w'.heap.size := Nat.lt_of_lt_of_le dQ0 (by omega)); (try have dQ1 : _ < w'.heap.size := Nat.lt_of_lt_of_le dQ1 (by omega)); (try have dQ2 : _ < w'.heap.size := Nat.lt_of_lt_of_le dQ2 (by omega)); (try have dQ3 : _ < w'.heap.size := Nat.lt_of_lt_of_le dQ3 (by omega)); (try have dQ4 : _ < w'.heap.size := Nat.lt_of_lt_of_le dQ4 (by omega)); (try have dQ5 : _ < w'.heap.size := Nat.lt_of_lt_of_le dQ5 (by omega)); (try (have hnQ := Nat.lt_of_succ_le hz; first | (have _x := dQ0; first | (have _x := dQ1; first | (have _x := dQ2; first | (have _x := dQ3; first | (have _x := dQ4; have dQ5 := hnQ) | have dQ4 := hnQ) | have dQ3 := hnQ) | have dQ2 := hnQ) | have dQ1 := hnQ) | have dQ0 := hnQ)); (try (have hmQ := Nat.lt_of_succ_lt (Nat.lt_of_succ_le hz); first | (have _x := dQ0; first | (have _x := dQ1; first | (have _x := dQ2; first | (have _x := dQ3; first | (have _x := dQ4; have dQ5 := hmQ) | have dQ4 := hmQ) | have dQ3 := hmQ) | have dQ2 := hmQ) | have dQ1 := hmQ) | have dQ0 := hmQ))
        go_wp2_with fail
        go_ret2
        exact ⟨_, by rw [HR.out, HE.out]; rfl, by rw [HR.out, HE.out]; exact hown2.mono (by omega), HW3.out.trans ((show Below w3.heap.size w3 _ by (repeat' first | (with_reducible exact Below.refl _ _) | (with_reducible refine Below.alloc ?_ ?_ _) | (with_reducible refine Below.drew ?_) | (with_reducible refine Below.setCell ?_ ?_ _) | (with_reducible refine below_via (by assumption) ?_ ?_) | go_size)).mono (by omega))⟩
      · have hl : 0 < U.length := List.length_pos_iff.2 hne
        have hin : mkLn a b o ⟨s', p', out⟩ ∈ undosOf a b o p' := mkLn_in (m := ⟨s', p', out⟩) (by rw [hU]; exact hne)
        have hstep := mkRun_step (m := ⟨s', p', out⟩) (by rw [hU]; exact hne) (N - (k + 1))
        rw [show N - (k + 1) + 1 = N - k from by omega, hrun.out] at hstep
        obtain ⟨q0, q1, q2⟩ := undosOf_in hin
        have hln := (linesOf_in q1).1
        have HB : Hid (∀ W, Calls Try.prog 153 #[.agg #[.int .i64 (mkLn a b o ⟨s', p', out⟩).f, .int .i64 (mkLn a b o ⟨s', p', out⟩).o, .int .i64 (mkLn a b o ⟨s', p', out⟩).t]] W fun e w' => e = .returned (.int .i64 (lbits (mkLn a b o ⟨s', p', out⟩))) ∧ Below W.heap.size W w') := fun W => l05Bits_any _ _ _ hln W
        have pb2 : lbits (mkLn a b o ⟨s', p', out⟩) < 9223372036854775808 := Int.lt_trans (lbits_lt (k := 49) hln (by have := hln.1.2; omega) (by have := hln.2.1.2; omega) (by have := hln.2.2.1.2; omega)) (by rw [pw49]; decide)
        have hxor : bits BinOp.xor IntKind.i64 p' (lbits (mkLn a b o ⟨s', p', out⟩)) = flip p' (mkLn a b o ⟨s', p', out⟩) := bits_xor hpb.1 (by omega) (lbits_nonneg _) pb2
        have HPN := Lib.hid (posOk_flip q0 q1)
        have HM : Hid (gD U Ln0 (nextSeed s' % (U.length : Int)).toNat = mkLn a b o ⟨s', p', out⟩) := by show _ = _; rw [← hU]; rfl
        have HN2 : Hid (mkRun a b o (N - (k + 1)) ⟨nextSeed s', flip p' (mkLn a b o ⟨s', p', out⟩), out ++ [mkLn a b o ⟨s', p', out⟩]⟩ = F) := hstep.symm
        obtain ⟨ix, hix⟩ : ∃ ix : Nat, nextSeed s' % (U.length : Int) = ix := ⟨_, (Int.toNat_of_nonneg (Int.emod_nonneg _ (by omega))).symm⟩
        have hixl : ix < U.length := by have := Int.emod_lt_of_pos (nextSeed s') (show (0 : Int) < U.length by omega); omega
        rw [hix, Int.toNat_natCast] at HM
        clear hU hne hin hstep q0 q1 q2 hln pb2
        generalize mkLn a b o ⟨s', p', out⟩ = x at *
        generalize flip p' x = p2 at *
        generalize nextSeed s' = ns at *
        generalize lbits x = LB at *
        go_wp2_with fail
        refine (sUndosOf_any _ _ _ _ (by omega) _).mono ?_
        rintro e w' ⟨vU, rfl, hownU, hb⟩
        have hown2 := hown.keep hb
        clear hown
        rw [HU.out] at hownU
        obtain ⟨aU, capU, rfl, _, hgetU⟩ := hownU.lineG
        clear hownU
        obtain ⟨bU, rfl, _, hbU, hc0, hc1, hc2⟩ := hgetU ix hixl
        rw [HM.out] at hc0 hc1 hc2
        clear hgetU
        obtain ⟨hc, hf, hz, hy⟩ := bcell hb; clear hy; (try simp only [World.size_alloc, World.size_setCell, World.size_drew] at hz); (try have gQ0 : w.heap.size < w'.heap.size := by omega); (try have gQ1 : w.heap.size + 1 < w'.heap.size := by omega); (try have gQ2 : w.heap.size + 1 + 1 < w'.heap.size := by omega); (try have gQ3 : w.heap.size + 1 + 1 + 1 < w'.heap.size := by omega); (try have gQ4 : w.heap.size + 1 + 1 + 1 + 1 < w'.heap.size := by omega); (try have gQ5 : w.heap.size + 1 + 1 + 1 + 1 + 1 < w'.heap.size := by omega); (try have dQ0 : _ < w'.heap.size := Nat.lt_of_lt_of_le dQ0 (by omega)); (try have dQ1 : _ < w'.heap.size := Nat.lt_of_lt_of_le dQ1 (by omega)); (try have dQ2 : _ < w'.heap.size := Nat.lt_of_lt_of_le dQ2 (by omega)); (try have dQ3 : _ < w'.heap.size := Nat.lt_of_lt_of_le dQ3 (by omega)); (try have dQ4 : _ < w'.heap.size := Nat.lt_of_lt_of_le dQ4 (by omega)); (try have dQ5 : _ < w'.heap.size := Nat.lt_of_lt_of_le dQ5 (by omega)); (try (have hnQ := Nat.lt_of_succ_le hz; first | (have _x := dQ0; first | (have _x := dQ1; first | (have _x := dQ2; first | (have _x := dQ3; first | (have _x := dQ4; have dQ5 := hnQ) | have dQ4 := hnQ) | have dQ3 := hnQ) | have dQ2 := hnQ) | have dQ1 := hnQ) | have dQ0 := hnQ)); (try (have hmQ := Nat.lt_of_succ_lt (Nat.lt_of_succ_le hz); first | (have _x := dQ0; first | (have _x := dQ1; first | (have _x := dQ2; first | (have _x := dQ3; first | (have _x := dQ4; have dQ5 := hmQ) | have dQ4 := hmQ) | have dQ3 := hmQ) | have dQ2 := hmQ) | have dQ1 := hmQ) | have dQ0 := hmQ))
        go_wp2_with fail
        refine (HNS.out _).mono ?_
        rintro e w' ⟨rfl, hb⟩
        have hown3 := (hown2.keep hb).alloc (.cells #[.int .i64 x.f, .int .i64 x.o, .int .i64 x.t] 51)
        clear hown2
        rw [← hb.cell (by simpa using hbU)] at hc0 hc1 hc2
        have gB := Nat.lt_of_lt_of_le hbU hb.size
        obtain ⟨hc, hf, hz, hy⟩ := bcell hb; clear hy; (try simp only [World.size_alloc, World.size_setCell, World.size_drew] at hz); (try have gQ0 : w.heap.size < w'.heap.size := by omega); (try have gQ1 : w.heap.size + 1 < w'.heap.size := by omega); (try have gQ2 : w.heap.size + 1 + 1 < w'.heap.size := by omega); (try have gQ3 : w.heap.size + 1 + 1 + 1 < w'.heap.size := by omega); (try have gQ4 : w.heap.size + 1 + 1 + 1 + 1 < w'.heap.size := by omega); (try have gQ5 : w.heap.size + 1 + 1 + 1 + 1 + 1 < w'.heap.size := by omega); (try have dQ0 : _ < w'.heap.size := Nat.lt_of_lt_of_le dQ0 (by omega)); (try have dQ1 : _ < w'.heap.size := Nat.lt_of_lt_of_le dQ1 (by omega)); (try have dQ2 : _ < w'.heap.size := Nat.lt_of_lt_of_le dQ2 (by omega)); (try have dQ3 : _ < w'.heap.size := Nat.lt_of_lt_of_le dQ3 (by omega)); (try have dQ4 : _ < w'.heap.size := Nat.lt_of_lt_of_le dQ4 (by omega)); (try have dQ5 : _ < w'.heap.size := Nat.lt_of_lt_of_le dQ5 (by omega)); (try (have hnQ := Nat.lt_of_succ_le hz; first | (have _x := dQ0; first | (have _x := dQ1; first | (have _x := dQ2; first | (have _x := dQ3; first | (have _x := dQ4; have dQ5 := hnQ) | have dQ4 := hnQ) | have dQ3 := hnQ) | have dQ2 := hnQ) | have dQ1 := hnQ) | have dQ0 := hnQ)); (try (have hmQ := Nat.lt_of_succ_lt (Nat.lt_of_succ_le hz); first | (have _x := dQ0; first | (have _x := dQ1; first | (have _x := dQ2; first | (have _x := dQ3; first | (have _x := dQ4; have dQ5 := hmQ) | have dQ4 := hmQ) | have dQ3 := hmQ) | have dQ2 := hmQ) | have dQ1 := hmQ) | have dQ0 := hmQ))
        go_wp2_with fail
        refine (HB.out _).mono ?_
        rintro e w' ⟨rfl, hb⟩
        have hown4 := (hown3.keep hb).alloc (.cells #[.int .i64 x.f, .int .i64 x.o, .int .i64 x.t] 51)
        clear hown3
        obtain ⟨hc, hf, hz, hy⟩ := bcell hb; clear hy; (try simp only [World.size_alloc, World.size_setCell, World.size_drew] at hz); (try have gQ0 : w.heap.size < w'.heap.size := by omega); (try have gQ1 : w.heap.size + 1 < w'.heap.size := by omega); (try have gQ2 : w.heap.size + 1 + 1 < w'.heap.size := by omega); (try have gQ3 : w.heap.size + 1 + 1 + 1 < w'.heap.size := by omega); (try have gQ4 : w.heap.size + 1 + 1 + 1 + 1 < w'.heap.size := by omega); (try have gQ5 : w.heap.size + 1 + 1 + 1 + 1 + 1 < w'.heap.size := by omega); (try have dQ0 : _ < w'.heap.size := Nat.lt_of_lt_of_le dQ0 (by omega)); (try have dQ1 : _ < w'.heap.size := Nat.lt_of_lt_of_le dQ1 (by omega)); (try have dQ2 : _ < w'.heap.size := Nat.lt_of_lt_of_le dQ2 (by omega)); (try have dQ3 : _ < w'.heap.size := Nat.lt_of_lt_of_le dQ3 (by omega)); (try have dQ4 : _ < w'.heap.size := Nat.lt_of_lt_of_le dQ4 (by omega)); (try have dQ5 : _ < w'.heap.size := Nat.lt_of_lt_of_le dQ5 (by omega)); (try (have hnQ := Nat.lt_of_succ_le hz; first | (have _x := dQ0; first | (have _x := dQ1; first | (have _x := dQ2; first | (have _x := dQ3; first | (have _x := dQ4; have dQ5 := hnQ) | have dQ4 := hnQ) | have dQ3 := hnQ) | have dQ2 := hnQ) | have dQ1 := hnQ) | have dQ0 := hnQ)); (try (have hmQ := Nat.lt_of_succ_lt (Nat.lt_of_succ_le hz); first | (have _x := dQ0; first | (have _x := dQ1; first | (have _x := dQ2; first | (have _x := dQ3; first | (have _x := dQ4; have dQ5 := hmQ) | have dQ4 := hmQ) | have dQ3 := hmQ) | have dQ2 := hmQ) | have dQ1 := hmQ) | have dQ0 := hmQ))
        have hB4 : Below w3.heap.size w3 (w'.alloc (.cells #[.int .i64 x.f, .int .i64 x.o, .int .i64 x.t] 51)) := by (repeat' first | (with_reducible exact Below.refl _ _) | (with_reducible refine Below.alloc ?_ ?_ _) | (with_reducible refine Below.drew ?_) | (with_reducible refine Below.setCell ?_ ?_ _) | (with_reducible refine below_via (by assumption) ?_ ?_) | go_size)
        have hsg := Own.single (E := ELine) x w' w3.heap.size (by omega)
        have hrl : out.reverse.length = out.length := by simp
        go_wp2_with (at_builtin; (refine appendN (E := ELine) (l := [x]) (l2 := out.reverse) rfl rfl _ _ 32 rfl Try.underlying32 rfl rfl hsg hown4 (by simp; omega) (by simp; omega) ?_); intro v' w2 hown5 hb5 hg5 _)
        go_roundw
        case rel => exact ⟨k + 1, ns, p2, out ++ [x], by omega, by go_num, rfl, rfl, HN2, HPN, by simp; omega, hns.1, hns.2, by simpa using hown5, hB4.trans hb5⟩
        case measure => simp [intOf]; omega
    · obtain rfl : k = N := by omega
      have HE : Hid (F = ⟨s', p', out⟩) := by
        show _ = _
        rw [← hrun.out, Nat.sub_self]; rfl
      go_wp2_with fail
      go_ret2
      exact ⟨_, by rw [HR.out, HE.out]; rfl, by rw [HR.out, HE.out]; exact hown.mono (by omega), HW3.out.trans ((show Below w3.heap.size w3 _ by (repeat' first | (with_reducible exact Below.refl _ _) | (with_reducible refine Below.alloc ?_ ?_ _) | (with_reducible refine Below.drew ?_) | (with_reducible refine Below.setCell ?_ ?_ _) | (with_reducible refine below_via (by assumption) ?_ ?_) | go_size)).mono (by omega))⟩
end Go.Proofs.Ytfpofhkggojaoaa
