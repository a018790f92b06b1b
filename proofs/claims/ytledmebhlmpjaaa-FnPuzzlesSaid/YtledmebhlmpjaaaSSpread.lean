/- SSpread: contract of the reference's l14Seen. Conditions: a small board, a position on it. -/
import Derived.Test.YtledmebhlmpjaaaSpread
import Derived.Test.YtledmebhlmpjaaaSLines
set_option linter.unusedVariables false
set_option linter.unusedSimpArgs false
namespace Go.Proofs.Ytledmebhlmpjaaa
open Go.ChangeShapes Go.WideShapes Go.ChangeAt Go.RowKit Peg Go.Sort
theorem Own.setBelow {α : Type} {E : Elt α} {w : World} {base : Nat} {v : Value} {l : List α} (h : Own E w base v l) {a : Addr} (ha : a.block < base) (u : Value) : Own E (w.setCell a u) base v l :=
  h.keep_of fun k hk _ _ => Below.heap_setCell _ _ _ _ (fun e => by omega)
set_option maxHeartbeats 1000000 in
set_option maxRecDepth 100000 in
theorem l14Seen_any (a b o p : Int) (back : Bool) (hp9 : p ≤ 9223372036854775807) (hsm : isSmall a b o = true) (hpo : posOk a b o p = true) (w : World) :
    Calls Try.prog 54 #[.agg #[.int .i64 a, .int .i64 b, .int .i64 o], .int .i64 p, .bool back] w (RetBools w (spreadOf a b o p back)) := by
  obtain ⟨hbo, ab1, ab16, hN, hN1⟩ := small_N hsm
  obtain ⟨p0, pN⟩ := pos_N hpo
  have HF : Hid (spreadOf a b o p back = seenOf back (linesOf a b o) (boardN a b) p) := by show _ = _; simp [spreadOf, hsm, hpo]
  have hLd := leads_of hbo
  have HI : Hid (∀ l ∈ linesOf a b o, LnIn a b l) := fun l hl => linesOf_in hl
  have hpw := pw_wrap (n := a * b) (by omega) (by omega)
  rw [pwN (by omega)] at hpw
  generalize boardN a b = N at *
  have HK0 := st0_ok (N := N) p0 pN
  have hmk := run_make_bools 58 Try.underlying58 (N : Int) (by omega) (by omega)
  have hw : IntKind.i64.wrap (a * b) = a * b := IntWalk.i64_in _ (by omega)
  have hfill : (fillCells (.bool false) N)[p.toNat]? = some (.bool false) := by
    have : p.toNat < N := by omega
    simp [fillCells, this]
  go_enter Try.func54, Try.ntmps54
  go_wp2_with fail
  refine (sLinesOf_any _ _ _ _).mono ?_
  rintro e w' ⟨vL, rfl, hownL, hb⟩
  obtain ⟨hc, hf, hz, hy⟩ := bcell hb; clear hy; (try simp only [World.size_alloc, World.size_setCell, World.size_drew] at hz); (try have gQ0 : w.heap.size < w'.heap.size := by omega); (try have gQ1 : w.heap.size + 1 < w'.heap.size := by omega); (try have gQ2 : w.heap.size + 1 + 1 < w'.heap.size := by omega); (try have gQ3 : w.heap.size + 1 + 1 + 1 < w'.heap.size := by omega); (try have gQ4 : w.heap.size + 1 + 1 + 1 + 1 < w'.heap.size := by omega); (try have gQ5 : w.heap.size + 1 + 1 + 1 + 1 + 1 < w'.heap.size := by omega); (try have dQ0 : _ < w'.heap.size := Nat.lt_of_lt_of_le dQ0 (by omega)); (try have dQ1 : _ < w'.heap.size := Nat.lt_of_lt_of_le dQ1 (by omega)); (try have dQ2 : _ < w'.heap.size := Nat.lt_of_lt_of_le dQ2 (by omega)); (try have dQ3 : _ < w'.heap.size := Nat.lt_of_lt_of_le dQ3 (by omega)); (try have dQ4 : _ < w'.heap.size := Nat.lt_of_lt_of_le dQ4 (by omega)); (try have dQ5 : _ < w'.heap.size := Nat.lt_of_lt_of_le dQ5 (by omega)); (try (have hnQ := Nat.lt_of_succ_le hz; first | (have _x := dQ0; first | (have _x := dQ1; first | (have _x := dQ2; first | (have _x := dQ3; first | (have _x := dQ4; have dQ5 := hnQ) | have dQ4 := hnQ) | have dQ3 := hnQ) | have dQ2 := hnQ) | have dQ1 := hnQ) | have dQ0 := hnQ)); (try (have hmQ := Nat.lt_of_succ_lt (Nat.lt_of_succ_le hz); first | (have _x := dQ0; first | (have _x := dQ1; first | (have _x := dQ2; first | (have _x := dQ3; first | (have _x := dQ4; have dQ5 := hmQ) | have dQ4 := hmQ) | have dQ3 := hmQ) | have dQ2 := hmQ) | have dQ1 := hmQ) | have dQ0 := hmQ))
  have hS0 := (Own.fill (E := EBool) rfl false (.bool false) rfl (w.alloc (.cells #[.int .i64 a, .int .i64 b, .int .i64 o] 27)) N (by unfold maxLen; omega)).keep hb
  simp only [World.size_alloc] at hS0
  have HW := Lib.hid (show Below w.heap.size w w' by (repeat' first | (with_reducible exact Below.refl _ _) | (with_reducible refine Below.alloc ?_ ?_ _) | (with_reducible refine Below.drew ?_) | (with_reducible refine Below.setCell ?_ ?_ _) | (with_reducible refine below_via (by assumption) ?_ ?_) | go_size))
  have hS1 := (hS0.store rfl p.toNat (by simp; omega) true (.bool true) rfl).1
  have hBw : Below (w.heap.size + 1) w' (w'.setCell ⟨w.heap.size + 1, p.toNat, none⟩ (.bool true)) := (Below.refl _ _).setCell (by simp) _
  obtain ⟨aL, capL, rfl, hnL, hgetL⟩ := hownL.line
  have HG : Hid (∀ i, i < (linesOf a b o).length → ∃ b, aL = some ⟨b, 0, none⟩ ∧ w.heap.size + 1 + 1 ≤ b ∧ b < w'.heap.size) := by
    intro i hi
    obtain ⟨bq, h1, h2, h3, _⟩ := hgetL i hi
    exact ⟨bq, h1, by simpa using h2, h3⟩
  clear hgetL
  have hL196 : (linesOf a b o).length ≤ 196 := by
    have h1 := linesFrom_le a b o (holesOf a b o)
    have h2 := holesOf_length a b o
    have e : linesOf a b o = (holesOf a b o).flatMap (linesFrom a b o) := rfl
    rw [← e] at h1
    omega
  generalize linesOf a b o = L at *
  obtain ⟨w3, rfl⟩ : ∃ w3 : World, w3 = w' := ⟨_, rfl⟩
  have hN0 : Own ELine (w3.setCell ⟨w.heap.size + 1, p.toNat, none⟩ (.bool true)) (w.heap.size + 1 + 1) (.slice aL L.length capL) L := (hownL.mono (by simp)).setBelow (by simp) _
  go_wp2_with fail
  clear hpw hmk hw hfill
  go_loopw [9, 10] (fun v i wr => ∃ k : Nat, k ≤ (stAt back L (st0 N p) k).list.length ∧ i = .int .i64 k ∧ Own EBool wr (w.heap.size + 1) (.slice (some ⟨w.heap.size + 1, 0, none⟩) N N) (stAt back L (st0 N p) k).seen ∧ Own EInt wr w3.heap.size v (stAt back L (st0 N p) k).list ∧ Own ELine wr (w.heap.size + 1 + 1) (.slice aL L.length capL) L ∧ Below (w.heap.size + 1) w3 wr) (fun _ i _ => N + 1 - (intOf i).toNat)
  case atStart => exact ⟨0, by omega, rfl, hS1.alloc _, by
    have := Own.single (E := EInt) p (w3.setCell ⟨w.heap.size + 1, p.toNat, none⟩ (.bool true)) w3.heap.size (by simp)
    simpa [EInt, st0, stAt] using this, hN0.alloc _, hBw.alloc (by simp; omega) _⟩
  case round =>
    obtain ⟨k, hk, rfl, hS, hLs, hNs, hbw⟩ := hrel
    have hz4 := hbw.size
    obtain ⟨wo, rfl⟩ : ∃ wo : World, wo = wr := ⟨_, rfl⟩
    have hok := stAt_ok (back := back) HK0 hLd k
    have hle := hok.le
    have HR := Lib.hid hok.range
    have HE : Hid (k < (stAt back L (st0 N p) k).list.length → stAt back L (st0 N p) (k + 1) = visits back ((stAt back L (st0 N p) k).list.getD k 0) L (stAt back L (st0 N p) k)) := stAt_succ
    have HZ : Hid ((stAt back L (st0 N p) k).list.length = k → (stAt back L (st0 N p) k).seen = seenOf back L N p) := seenOf_end p0 pN hLd
    have HOK := Lib.hid hok
    clear hok
    by_cases hlt : k < (stAt back L (st0 N p) k).list.length
    · have HE2 := Lib.hid (HE.out hlt)
      have hkr := HR.out _ (getD_mem _ k 0 hlt)
      generalize stAt back L (st0 N p) k = s at *
      obtain ⟨aK, capK, rfl, hnK, hgetK⟩ := hLs.int
      clear hgetK
      go_wp2_with fail
      generalize hpk : s.list.getD k 0 = pk at *
      have HPK := Lib.hid hpk
      clear hpk
      go_loopw [9, 11] (fun v i wr => ∃ j : Nat, j ≤ L.length ∧ i = .int .i64 j ∧ Own EBool wr (w.heap.size + 1) (.slice (some ⟨w.heap.size + 1, 0, none⟩) N N) (visits back pk (L.take j) s).seen ∧ Own EInt wr w3.heap.size v (visits back pk (L.take j) s).list ∧ Own ELine wr (w.heap.size + 1 + 1) (.slice aL L.length capL) L ∧ Below (w.heap.size + 1) w3 wr) (fun _ i _ => L.length - (intOf i).toNat)
      case atStart => exact ⟨0, by omega, rfl, hS, hLs, hNs, hbw⟩
      case round =>
        obtain ⟨j, hj, rfl, hS2, hL2, hN2, hbw2⟩ := hrel
        have hz5 := hbw2.size
        by_cases hjt : j < L.length
        · obtain ⟨bL, rfl, hbL1, hbL2⟩ := HG.out j hjt
          obtain ⟨aL2, capL2, hvL, _, hgetL⟩ := hN2.line
          obtain ⟨bL3, hbl, _, _, hm1, hm2, hm3⟩ := hgetL j hjt
          clear hgetL
          simp only [Value.slice.injEq] at hvL
          obtain ⟨rfl, _, rfl⟩ := hvL
          simp only [Option.some.injEq, Addr.mk.injEq, and_true] at hbl
          subst hbl
          have hin := HI.out _ (getD_mem L j Ln0 hjt)
          have HT : Hid (visits back pk (L.take (j + 1)) s = visit back pk (visits back pk (L.take j) s) (L.getD j Ln0)) := visits_take _ _ _ _ _ _ hjt
          have hok2 : StOk N (visits back pk (L.take j) s) := visits_ok _ _ HOK.out (fun x hx => hLd x (List.mem_of_mem_take hx) pk hkr.1 hkr.2)
          have hpre := visits_prefix back pk (L.take j) s
          have hqN := hLd _ (getD_mem L j Ln0 hjt) pk hkr.1 hkr.2
          generalize L.getD j Ln0 = l at *
          generalize visits back pk (L.take j) s = s' at *
          have hks : k < s'.list.length ∧ s'.list.getD k 0 = pk := by
            obtain ⟨t, ht⟩ := hpre
            rw [ht]
            refine ⟨by simp; omega, ?_⟩
            rw [← HPK.out]
            simp [List.getElem?_append_left hlt]
          clear hpre
          obtain ⟨hk2, hpk2⟩ := hks
          obtain ⟨aK2, capK2, rfl, hnK2, hgetK2⟩ := hL2.int
          obtain ⟨bK2, rfl, hbK3, hbK4, hcK2⟩ := hgetK2 k hk2
          rw [hpk2] at hcK2
          clear hgetK2 hpk2
          have hle2 := hok2.le
          have hq0 := flip_nonneg pk l
          have dQ0 : w.heap.size + 1 < wr.heap.size := by omega
          have dQ1 : bK2 < wr.heap.size := hbK4
          have dQ2 : bL < wr.heap.size := by omega
          have HCL : Hid (∀ W, Calls Try.prog 43 #[.agg #[.int .i64 l.f, .int .i64 l.o, .int .i64 l.t]] W fun e w' => e = .returned (.int .i64 (lbits l)) ∧ Below W.heap.size W w') := fun W => l05Bits_any l.f l.o l.t hin.1 W
          have hwf := pw_wrap (n := l.f) hin.1.1.1 (by have := hin.1.1.2; omega)
          have hwo := pw_wrap (n := l.o) hin.1.2.1.1 (by have := hin.1.2.1.2; omega)
          have hwt := pw_wrap (n := l.t) hin.1.2.2.1.1 (by have := hin.1.2.2.1.2; omega)
          have pf0 := pw_pos l.f
          have po0 := pw_pos l.o
          have pt0 := pw_pos l.t
          have pf2 : pw l.f < 9223372036854775808 := Int.lt_trans (pw_lt (k := 49) hin.1.1.1 (by have := hin.1.1.2; omega)) (by rw [pw49]; decide)
          have po2 : pw l.o < 9223372036854775808 := Int.lt_trans (pw_lt (k := 49) hin.1.2.1.1 (by have := hin.1.2.1.2; omega)) (by rw [pw49]; decide)
          have pb2 : lbits l < 9223372036854775808 := Int.lt_trans (lbits_lt (k := 49) hin.1 (by have := hin.1.1.2; omega) (by have := hin.1.2.1.2; omega) (by have := hin.1.2.2.1.2; omega)) (by rw [pw49]; decide)
          have pb0 := lbits_nonneg l
          have hor := bits_or (a := pw l.f) (b := pw l.o) (by omega) pf2 (by omega) po2
          have hand := bits_and (a := pk) (b := lbits l) hkr.1 (by omega) pb0 pb2
          have hxor := bits_xor (a := pk) (b := lbits l) hkr.1 (by omega) pb0 pb2
          rw [show bxor pk (lbits l) = Peg.flip pk l from rfl] at hxor
          have hV := visit_cases back pk s' l
          have hfb : ¬ (w.heap.size + 1 = bK2) := by omega
          have hfo := hin.1.1
          have hoo := hin.1.2.1
          have hto := hin.1.2.2.1
          cases back
          · simp only [show can false pk l = canJ pk l from rfl, ← canJ_iff hin.1] at hV
            clear pf0 po0 pt0 pf2 po2 pb2 pb0
            generalize lbits l = LB at *
            generalize Peg.flip pk l = q at *
            generalize hA : band pk LB = A at *
            generalize hFO : bor (pw l.f) (pw l.o) = FO at *
            generalize pw l.f = F at *
            generalize pw l.o = O at *
            generalize pw l.t = T at *
            clear hA hFO
            rcases hV with ⟨hcan, hV⟩ | ⟨hcan, hsn, hV⟩ | ⟨hcan, hsn, hV⟩
            · rw [hV] at HT
              clear hV
              go_wp2_with (first | (go_at_call 43; refine (HCL.out _).mono ?_; rintro e w' ⟨rfl, hb⟩; obtain ⟨hc, hf, hz, hy⟩ := bcell hb; clear hy; (try simp only [World.size_alloc, World.size_setCell, World.size_drew] at hz); (try have gQ0 : w.heap.size < w'.heap.size := by omega); (try have gQ1 : w.heap.size + 1 < w'.heap.size := by omega); (try have gQ2 : w.heap.size + 1 + 1 < w'.heap.size := by omega); (try have gQ3 : w.heap.size + 1 + 1 + 1 < w'.heap.size := by omega); (try have gQ4 : w.heap.size + 1 + 1 + 1 + 1 < w'.heap.size := by omega); (try have gQ5 : w.heap.size + 1 + 1 + 1 + 1 + 1 < w'.heap.size := by omega); (try have dQ0 : _ < w'.heap.size := Nat.lt_of_lt_of_le dQ0 (by omega)); (try have dQ1 : _ < w'.heap.size := Nat.lt_of_lt_of_le dQ1 (by omega)); (try have dQ2 : _ < w'.heap.size := Nat.lt_of_lt_of_le dQ2 (by omega)); (try have dQ3 : _ < w'.heap.size := Nat.lt_of_lt_of_le dQ3 (by omega)); (try have dQ4 : _ < w'.heap.size := Nat.lt_of_lt_of_le dQ4 (by omega)); (try have dQ5 : _ < w'.heap.size := Nat.lt_of_lt_of_le dQ5 (by omega)); (try (have hnQ := Nat.lt_of_succ_le hz; first | (have _x := dQ0; first | (have _x := dQ1; first | (have _x := dQ2; first | (have _x := dQ3; first | (have _x := dQ4; have dQ5 := hnQ) | have dQ4 := hnQ) | have dQ3 := hnQ) | have dQ2 := hnQ) | have dQ1 := hnQ) | have dQ0 := hnQ)); (try (have hmQ := Nat.lt_of_succ_lt (Nat.lt_of_succ_le hz); first | (have _x := dQ0; first | (have _x := dQ1; first | (have _x := dQ2; first | (have _x := dQ3; first | (have _x := dQ4; have dQ5 := hmQ) | have dQ4 := hmQ) | have dQ3 := hmQ) | have dQ2 := hmQ) | have dQ1 := hmQ) | have dQ0 := hmQ)); have hS3 := hS2.keep hb; have hL3 := hL2.keep hb; have hN3 := hN2.keep hb; have hB3 := below_via hb hbw2 (by omega)) | ((with_reducible refine wp_region_qb ?_ ?_ (fun hq => ?_)); (focus kernel_rfl); (focus kernel_rfl); (repeat (go_big_quiet_step (fail))); refine wpQuiet_nil ?_; intro wq hb; obtain ⟨hc, hf, hz, hy⟩ := bcell hb; clear hq hy; (try simp only [World.size_alloc, World.size_setCell, World.size_drew] at hz); (try have gQ0 : w.heap.size < wq.heap.size := by omega); (try have gQ1 : w.heap.size + 1 < wq.heap.size := by omega); (try have gQ2 : w.heap.size + 1 + 1 < wq.heap.size := by omega); (try have gQ3 : w.heap.size + 1 + 1 + 1 < wq.heap.size := by omega); (try have gQ4 : w.heap.size + 1 + 1 + 1 + 1 < wq.heap.size := by omega); (try have gQ5 : w.heap.size + 1 + 1 + 1 + 1 + 1 < wq.heap.size := by omega); (try have dQ0 : _ < wq.heap.size := Nat.lt_of_lt_of_le dQ0 (by omega)); (try have dQ1 : _ < wq.heap.size := Nat.lt_of_lt_of_le dQ1 (by omega)); (try have dQ2 : _ < wq.heap.size := Nat.lt_of_lt_of_le dQ2 (by omega)); (try have dQ3 : _ < wq.heap.size := Nat.lt_of_lt_of_le dQ3 (by omega)); (try have dQ4 : _ < wq.heap.size := Nat.lt_of_lt_of_le dQ4 (by omega)); (try have dQ5 : _ < wq.heap.size := Nat.lt_of_lt_of_le dQ5 (by omega)); (try (have hnQ := Nat.lt_of_succ_le hz; first | (have _x := dQ0; first | (have _x := dQ1; first | (have _x := dQ2; first | (have _x := dQ3; first | (have _x := dQ4; have dQ5 := hnQ) | have dQ4 := hnQ) | have dQ3 := hnQ) | have dQ2 := hnQ) | have dQ1 := hnQ) | have dQ0 := hnQ)); (try (have hmQ := Nat.lt_of_succ_lt (Nat.lt_of_succ_le hz); first | (have _x := dQ0; first | (have _x := dQ1; first | (have _x := dQ2; first | (have _x := dQ3; first | (have _x := dQ4; have dQ5 := hmQ) | have dQ4 := hmQ) | have dQ3 := hmQ) | have dQ2 := hmQ) | have dQ1 := hmQ) | have dQ0 := hmQ)); have hSq := hS3.keep hb; have hLq := hL3.keep hb; have hNq := hN3.keep hb; have hBq := below_via hb hB3 (by omega)))
              go_roundw
              case rel => exact ⟨j + 1, by omega, by go_num, by rw [HT.out]; exact hSq, by rw [HT.out]; exact hLq, hNq, hBq⟩
              case measure => simp [intOf]; omega
            · rw [hV] at HT
              clear hV
              have hm5 := (Own.boolAt hS2 q.toNat (by rw [hok2.size]; omega)).1
              rw [hsn] at hm5
              go_wp2_with (first | (go_at_call 43; refine (HCL.out _).mono ?_; rintro e w' ⟨rfl, hb⟩; obtain ⟨hc, hf, hz, hy⟩ := bcell hb; clear hy; (try simp only [World.size_alloc, World.size_setCell, World.size_drew] at hz); (try have gQ0 : w.heap.size < w'.heap.size := by omega); (try have gQ1 : w.heap.size + 1 < w'.heap.size := by omega); (try have gQ2 : w.heap.size + 1 + 1 < w'.heap.size := by omega); (try have gQ3 : w.heap.size + 1 + 1 + 1 < w'.heap.size := by omega); (try have gQ4 : w.heap.size + 1 + 1 + 1 + 1 < w'.heap.size := by omega); (try have gQ5 : w.heap.size + 1 + 1 + 1 + 1 + 1 < w'.heap.size := by omega); (try have dQ0 : _ < w'.heap.size := Nat.lt_of_lt_of_le dQ0 (by omega)); (try have dQ1 : _ < w'.heap.size := Nat.lt_of_lt_of_le dQ1 (by omega)); (try have dQ2 : _ < w'.heap.size := Nat.lt_of_lt_of_le dQ2 (by omega)); (try have dQ3 : _ < w'.heap.size := Nat.lt_of_lt_of_le dQ3 (by omega)); (try have dQ4 : _ < w'.heap.size := Nat.lt_of_lt_of_le dQ4 (by omega)); (try have dQ5 : _ < w'.heap.size := Nat.lt_of_lt_of_le dQ5 (by omega)); (try (have hnQ := Nat.lt_of_succ_le hz; first | (have _x := dQ0; first | (have _x := dQ1; first | (have _x := dQ2; first | (have _x := dQ3; first | (have _x := dQ4; have dQ5 := hnQ) | have dQ4 := hnQ) | have dQ3 := hnQ) | have dQ2 := hnQ) | have dQ1 := hnQ) | have dQ0 := hnQ)); (try (have hmQ := Nat.lt_of_succ_lt (Nat.lt_of_succ_le hz); first | (have _x := dQ0; first | (have _x := dQ1; first | (have _x := dQ2; first | (have _x := dQ3; first | (have _x := dQ4; have dQ5 := hmQ) | have dQ4 := hmQ) | have dQ3 := hmQ) | have dQ2 := hmQ) | have dQ1 := hmQ) | have dQ0 := hmQ)); have hS3 := hS2.keep hb; have hL3 := hL2.keep hb; have hN3 := hN2.keep hb; have hB3 := below_via hb hbw2 (by omega)) | ((with_reducible refine wp_region_qb ?_ ?_ (fun hq => ?_)); (focus kernel_rfl); (focus kernel_rfl); (repeat (go_big_quiet_step (fail))); refine wpQuiet_nil ?_; intro wq hb; obtain ⟨hc, hf, hz, hy⟩ := bcell hb; clear hq hy; (try simp only [World.size_alloc, World.size_setCell, World.size_drew] at hz); (try have gQ0 : w.heap.size < wq.heap.size := by omega); (try have gQ1 : w.heap.size + 1 < wq.heap.size := by omega); (try have gQ2 : w.heap.size + 1 + 1 < wq.heap.size := by omega); (try have gQ3 : w.heap.size + 1 + 1 + 1 < wq.heap.size := by omega); (try have gQ4 : w.heap.size + 1 + 1 + 1 + 1 < wq.heap.size := by omega); (try have gQ5 : w.heap.size + 1 + 1 + 1 + 1 + 1 < wq.heap.size := by omega); (try have dQ0 : _ < wq.heap.size := Nat.lt_of_lt_of_le dQ0 (by omega)); (try have dQ1 : _ < wq.heap.size := Nat.lt_of_lt_of_le dQ1 (by omega)); (try have dQ2 : _ < wq.heap.size := Nat.lt_of_lt_of_le dQ2 (by omega)); (try have dQ3 : _ < wq.heap.size := Nat.lt_of_lt_of_le dQ3 (by omega)); (try have dQ4 : _ < wq.heap.size := Nat.lt_of_lt_of_le dQ4 (by omega)); (try have dQ5 : _ < wq.heap.size := Nat.lt_of_lt_of_le dQ5 (by omega)); (try (have hnQ := Nat.lt_of_succ_le hz; first | (have _x := dQ0; first | (have _x := dQ1; first | (have _x := dQ2; first | (have _x := dQ3; first | (have _x := dQ4; have dQ5 := hnQ) | have dQ4 := hnQ) | have dQ3 := hnQ) | have dQ2 := hnQ) | have dQ1 := hnQ) | have dQ0 := hnQ)); (try (have hmQ := Nat.lt_of_succ_lt (Nat.lt_of_succ_le hz); first | (have _x := dQ0; first | (have _x := dQ1; first | (have _x := dQ2; first | (have _x := dQ3; first | (have _x := dQ4; have dQ5 := hmQ) | have dQ4 := hmQ) | have dQ3 := hmQ) | have dQ2 := hmQ) | have dQ1 := hmQ) | have dQ0 := hmQ)); have hSq := hS3.keep hb; have hLq := hL3.keep hb; have hNq := hN3.keep hb; have hBq := below_via hb hB3 (by omega)))
              go_roundw
              case rel => exact ⟨j + 1, by omega, by go_num, by rw [HT.out]; exact hSq, by rw [HT.out]; exact hLq, hNq, hBq⟩
              case measure => simp [intOf]; omega
            · rw [hV] at HT
              clear hV
              have hm5 := (Own.boolAt hS2 q.toNat (by rw [hok2.size]; omega)).1
              rw [hsn] at hm5
              obtain ⟨_, hsome, hfro⟩ := Own.store hS2 rfl q.toNat (by rw [hok2.size]; omega) true (.bool true) rfl
              have hllQ : s'.list.length ≤ 1099511627776 := by omega
              go_wp2_with (first | (go_at_call 43; refine (HCL.out _).mono ?_; rintro e w' ⟨rfl, hb⟩; obtain ⟨hc, hf, hz, hy⟩ := bcell hb; clear hy; (try simp only [World.size_alloc, World.size_setCell, World.size_drew] at hz); (try have gQ0 : w.heap.size < w'.heap.size := by omega); (try have gQ1 : w.heap.size + 1 < w'.heap.size := by omega); (try have gQ2 : w.heap.size + 1 + 1 < w'.heap.size := by omega); (try have gQ3 : w.heap.size + 1 + 1 + 1 < w'.heap.size := by omega); (try have gQ4 : w.heap.size + 1 + 1 + 1 + 1 < w'.heap.size := by omega); (try have gQ5 : w.heap.size + 1 + 1 + 1 + 1 + 1 < w'.heap.size := by omega); (try have dQ0 : _ < w'.heap.size := Nat.lt_of_lt_of_le dQ0 (by omega)); (try have dQ1 : _ < w'.heap.size := Nat.lt_of_lt_of_le dQ1 (by omega)); (try have dQ2 : _ < w'.heap.size := Nat.lt_of_lt_of_le dQ2 (by omega)); (try have dQ3 : _ < w'.heap.size := Nat.lt_of_lt_of_le dQ3 (by omega)); (try have dQ4 : _ < w'.heap.size := Nat.lt_of_lt_of_le dQ4 (by omega)); (try have dQ5 : _ < w'.heap.size := Nat.lt_of_lt_of_le dQ5 (by omega)); (try (have hnQ := Nat.lt_of_succ_le hz; first | (have _x := dQ0; first | (have _x := dQ1; first | (have _x := dQ2; first | (have _x := dQ3; first | (have _x := dQ4; have dQ5 := hnQ) | have dQ4 := hnQ) | have dQ3 := hnQ) | have dQ2 := hnQ) | have dQ1 := hnQ) | have dQ0 := hnQ)); (try (have hmQ := Nat.lt_of_succ_lt (Nat.lt_of_succ_le hz); first | (have _x := dQ0; first | (have _x := dQ1; first | (have _x := dQ2; first | (have _x := dQ3; first | (have _x := dQ4; have dQ5 := hmQ) | have dQ4 := hmQ) | have dQ3 := hmQ) | have dQ2 := hmQ) | have dQ1 := hmQ) | have dQ0 := hmQ)); have hS3 := hS2.keep hb; have hL3 := hL2.keep hb; have hN3 := hN2.keep hb; have hB3 := below_via hb hbw2 (by omega)) | ((with_reducible refine wp_region_qb ?_ ?_ (fun hq => ?_)); (focus kernel_rfl); (focus kernel_rfl); (repeat (go_big_quiet_step (fail))); refine wpQuiet_nil ?_; intro wq hb; obtain ⟨hc, hf, hz, hy⟩ := bcell hb; clear hq hy; (try simp only [World.size_alloc, World.size_setCell, World.size_drew] at hz); (try have gQ0 : w.heap.size < wq.heap.size := by omega); (try have gQ1 : w.heap.size + 1 < wq.heap.size := by omega); (try have gQ2 : w.heap.size + 1 + 1 < wq.heap.size := by omega); (try have gQ3 : w.heap.size + 1 + 1 + 1 < wq.heap.size := by omega); (try have gQ4 : w.heap.size + 1 + 1 + 1 + 1 < wq.heap.size := by omega); (try have gQ5 : w.heap.size + 1 + 1 + 1 + 1 + 1 < wq.heap.size := by omega); (try have dQ0 : _ < wq.heap.size := Nat.lt_of_lt_of_le dQ0 (by omega)); (try have dQ1 : _ < wq.heap.size := Nat.lt_of_lt_of_le dQ1 (by omega)); (try have dQ2 : _ < wq.heap.size := Nat.lt_of_lt_of_le dQ2 (by omega)); (try have dQ3 : _ < wq.heap.size := Nat.lt_of_lt_of_le dQ3 (by omega)); (try have dQ4 : _ < wq.heap.size := Nat.lt_of_lt_of_le dQ4 (by omega)); (try have dQ5 : _ < wq.heap.size := Nat.lt_of_lt_of_le dQ5 (by omega)); (try (have hnQ := Nat.lt_of_succ_le hz; first | (have _x := dQ0; first | (have _x := dQ1; first | (have _x := dQ2; first | (have _x := dQ3; first | (have _x := dQ4; have dQ5 := hnQ) | have dQ4 := hnQ) | have dQ3 := hnQ) | have dQ2 := hnQ) | have dQ1 := hnQ) | have dQ0 := hnQ)); (try (have hmQ := Nat.lt_of_succ_lt (Nat.lt_of_succ_le hz); first | (have _x := dQ0; first | (have _x := dQ1; first | (have _x := dQ2; first | (have _x := dQ3; first | (have _x := dQ4; have dQ5 := hmQ) | have dQ4 := hmQ) | have dQ3 := hmQ) | have dQ2 := hmQ) | have dQ1 := hmQ) | have dQ0 := hmQ)); have hSq := hS3.keep hb; have hLq := hL3.keep hb; have hNq := hN3.keep hb; have hBq := below_via hb hB3 (by omega)) | (at_builtin; have hst := (Own.store hSq rfl q.toNat (by rw [hok2.size]; omega) true (.bool true) rfl).1; have hLq2 := hLq.setBelow (a := ⟨w.heap.size + 1, q.toNat, none⟩) (by simp; omega) (.bool true); have hNq2 := hNq.setBelow (a := ⟨w.heap.size + 1, q.toNat, none⟩) (by simp) (.bool true); (refine append1 (E := EInt) (c := 1) (v := .slice (some ⟨bK2, 0, none⟩) s'.list.length capK2) (l := s'.list) rfl rfl _ _ 61 rfl Try.underlying61 rfl hLq2 q (by simp only [World.size_setCell]; rfl) hllQ (by simp; omega) ?_); intro v' w2 hown2 hb2 hg2))
              have hS5 := (hst.alloc (.cells (EInt.enc q).toArray EInt.e)).grown hg2 (.inl (by simp [Value.ownBlock]; omega))
              have hN5 := (hNq2.alloc (.cells (EInt.enc q).toArray EInt.e)).grown hg2 (.inl (by simp [Value.ownBlock]; omega))
              go_roundw
              case rel => exact ⟨j + 1, by omega, by go_num, by rw [HT.out]; exact hS5, by rw [HT.out]; exact hown2, hN5, (hBq.setCell (by simp) _).trans (hb2.mono (by omega))⟩
              case measure => simp [intOf]; omega
          · simp only [show can true pk l = canU pk l from rfl, ← canU_iff hin.1] at hV
            clear pf0 po0 pt0 pf2 po2 pb2 pb0
            generalize lbits l = LB at *
            generalize Peg.flip pk l = q at *
            generalize hA : band pk LB = A at *
            generalize hFO : bor (pw l.f) (pw l.o) = FO at *
            generalize pw l.f = F at *
            generalize pw l.o = O at *
            generalize pw l.t = T at *
            clear hA hFO
            rcases hV with ⟨hcan, hV⟩ | ⟨hcan, hsn, hV⟩ | ⟨hcan, hsn, hV⟩
            · rw [hV] at HT
              clear hV
              go_wp2_with (first | (go_at_call 43; refine (HCL.out _).mono ?_; rintro e w' ⟨rfl, hb⟩; obtain ⟨hc, hf, hz, hy⟩ := bcell hb; clear hy; (try simp only [World.size_alloc, World.size_setCell, World.size_drew] at hz); (try have gQ0 : w.heap.size < w'.heap.size := by omega); (try have gQ1 : w.heap.size + 1 < w'.heap.size := by omega); (try have gQ2 : w.heap.size + 1 + 1 < w'.heap.size := by omega); (try have gQ3 : w.heap.size + 1 + 1 + 1 < w'.heap.size := by omega); (try have gQ4 : w.heap.size + 1 + 1 + 1 + 1 < w'.heap.size := by omega); (try have gQ5 : w.heap.size + 1 + 1 + 1 + 1 + 1 < w'.heap.size := by omega); (try have dQ0 : _ < w'.heap.size := Nat.lt_of_lt_of_le dQ0 (by omega)); (try have dQ1 : _ < w'.heap.size := Nat.lt_of_lt_of_le dQ1 (by omega)); (try have dQ2 : _ < w'.heap.size := Nat.lt_of_lt_of_le dQ2 (by omega)); (try have dQ3 : _ < w'.heap.size := Nat.lt_of_lt_of_le dQ3 (by omega)); (try have dQ4 : _ < w'.heap.size := Nat.lt_of_lt_of_le dQ4 (by omega)); (try have dQ5 : _ < w'.heap.size := Nat.lt_of_lt_of_le dQ5 (by omega)); (try (have hnQ := Nat.lt_of_succ_le hz; first | (have _x := dQ0; first | (have _x := dQ1; first | (have _x := dQ2; first | (have _x := dQ3; first | (have _x := dQ4; have dQ5 := hnQ) | have dQ4 := hnQ) | have dQ3 := hnQ) | have dQ2 := hnQ) | have dQ1 := hnQ) | have dQ0 := hnQ)); (try (have hmQ := Nat.lt_of_succ_lt (Nat.lt_of_succ_le hz); first | (have _x := dQ0; first | (have _x := dQ1; first | (have _x := dQ2; first | (have _x := dQ3; first | (have _x := dQ4; have dQ5 := hmQ) | have dQ4 := hmQ) | have dQ3 := hmQ) | have dQ2 := hmQ) | have dQ1 := hmQ) | have dQ0 := hmQ)); have hS3 := hS2.keep hb; have hL3 := hL2.keep hb; have hN3 := hN2.keep hb; have hB3 := below_via hb hbw2 (by omega)) | ((with_reducible refine wp_region_qb ?_ ?_ (fun hq => ?_)); (focus kernel_rfl); (focus kernel_rfl); (repeat (go_big_quiet_step (fail))); refine wpQuiet_nil ?_; intro wq hb; obtain ⟨hc, hf, hz, hy⟩ := bcell hb; clear hq hy; (try simp only [World.size_alloc, World.size_setCell, World.size_drew] at hz); (try have gQ0 : w.heap.size < wq.heap.size := by omega); (try have gQ1 : w.heap.size + 1 < wq.heap.size := by omega); (try have gQ2 : w.heap.size + 1 + 1 < wq.heap.size := by omega); (try have gQ3 : w.heap.size + 1 + 1 + 1 < wq.heap.size := by omega); (try have gQ4 : w.heap.size + 1 + 1 + 1 + 1 < wq.heap.size := by omega); (try have gQ5 : w.heap.size + 1 + 1 + 1 + 1 + 1 < wq.heap.size := by omega); (try have dQ0 : _ < wq.heap.size := Nat.lt_of_lt_of_le dQ0 (by omega)); (try have dQ1 : _ < wq.heap.size := Nat.lt_of_lt_of_le dQ1 (by omega)); (try have dQ2 : _ < wq.heap.size := Nat.lt_of_lt_of_le dQ2 (by omega)); (try have dQ3 : _ < wq.heap.size := Nat.lt_of_lt_of_le dQ3 (by omega)); (try have dQ4 : _ < wq.heap.size := Nat.lt_of_lt_of_le dQ4 (by omega)); (try have dQ5 : _ < wq.heap.size := Nat.lt_of_lt_of_le dQ5 (by omega)); (try (have hnQ := Nat.lt_of_succ_le hz; first | (have _x := dQ0; first | (have _x := dQ1; first | (have _x := dQ2; first | (have _x := dQ3; first | (have _x := dQ4; have dQ5 := hnQ) | have dQ4 := hnQ) | have dQ3 := hnQ) | have dQ2 := hnQ) | have dQ1 := hnQ) | have dQ0 := hnQ)); (try (have hmQ := Nat.lt_of_succ_lt (Nat.lt_of_succ_le hz); first | (have _x := dQ0; first | (have _x := dQ1; first | (have _x := dQ2; first | (have _x := dQ3; first | (have _x := dQ4; have dQ5 := hmQ) | have dQ4 := hmQ) | have dQ3 := hmQ) | have dQ2 := hmQ) | have dQ1 := hmQ) | have dQ0 := hmQ)); have hSq := hS3.keep hb; have hLq := hL3.keep hb; have hNq := hN3.keep hb; have hBq := below_via hb hB3 (by omega)))
              go_roundw
              case rel => exact ⟨j + 1, by omega, by go_num, by rw [HT.out]; exact hSq, by rw [HT.out]; exact hLq, hNq, hBq⟩
              case measure => simp [intOf]; omega
            · rw [hV] at HT
              clear hV
              have hm5 := (Own.boolAt hS2 q.toNat (by rw [hok2.size]; omega)).1
              rw [hsn] at hm5
              go_wp2_with (first | (go_at_call 43; refine (HCL.out _).mono ?_; rintro e w' ⟨rfl, hb⟩; obtain ⟨hc, hf, hz, hy⟩ := bcell hb; clear hy; (try simp only [World.size_alloc, World.size_setCell, World.size_drew] at hz); (try have gQ0 : w.heap.size < w'.heap.size := by omega); (try have gQ1 : w.heap.size + 1 < w'.heap.size := by omega); (try have gQ2 : w.heap.size + 1 + 1 < w'.heap.size := by omega); (try have gQ3 : w.heap.size + 1 + 1 + 1 < w'.heap.size := by omega); (try have gQ4 : w.heap.size + 1 + 1 + 1 + 1 < w'.heap.size := by omega); (try have gQ5 : w.heap.size + 1 + 1 + 1 + 1 + 1 < w'.heap.size := by omega); (try have dQ0 : _ < w'.heap.size := Nat.lt_of_lt_of_le dQ0 (by omega)); (try have dQ1 : _ < w'.heap.size := Nat.lt_of_lt_of_le dQ1 (by omega)); (try have dQ2 : _ < w'.heap.size := Nat.lt_of_lt_of_le dQ2 (by omega)); (try have dQ3 : _ < w'.heap.size := Nat.lt_of_lt_of_le dQ3 (by omega)); (try have dQ4 : _ < w'.heap.size := Nat.lt_of_lt_of_le dQ4 (by omega)); (try have dQ5 : _ < w'.heap.size := Nat.lt_of_lt_of_le dQ5 (by omega)); (try (have hnQ := Nat.lt_of_succ_le hz; first | (have _x := dQ0; first | (have _x := dQ1; first | (have _x := dQ2; first | (have _x := dQ3; first | (have _x := dQ4; have dQ5 := hnQ) | have dQ4 := hnQ) | have dQ3 := hnQ) | have dQ2 := hnQ) | have dQ1 := hnQ) | have dQ0 := hnQ)); (try (have hmQ := Nat.lt_of_succ_lt (Nat.lt_of_succ_le hz); first | (have _x := dQ0; first | (have _x := dQ1; first | (have _x := dQ2; first | (have _x := dQ3; first | (have _x := dQ4; have dQ5 := hmQ) | have dQ4 := hmQ) | have dQ3 := hmQ) | have dQ2 := hmQ) | have dQ1 := hmQ) | have dQ0 := hmQ)); have hS3 := hS2.keep hb; have hL3 := hL2.keep hb; have hN3 := hN2.keep hb; have hB3 := below_via hb hbw2 (by omega)) | ((with_reducible refine wp_region_qb ?_ ?_ (fun hq => ?_)); (focus kernel_rfl); (focus kernel_rfl); (repeat (go_big_quiet_step (fail))); refine wpQuiet_nil ?_; intro wq hb; obtain ⟨hc, hf, hz, hy⟩ := bcell hb; clear hq hy; (try simp only [World.size_alloc, World.size_setCell, World.size_drew] at hz); (try have gQ0 : w.heap.size < wq.heap.size := by omega); (try have gQ1 : w.heap.size + 1 < wq.heap.size := by omega); (try have gQ2 : w.heap.size + 1 + 1 < wq.heap.size := by omega); (try have gQ3 : w.heap.size + 1 + 1 + 1 < wq.heap.size := by omega); (try have gQ4 : w.heap.size + 1 + 1 + 1 + 1 < wq.heap.size := by omega); (try have gQ5 : w.heap.size + 1 + 1 + 1 + 1 + 1 < wq.heap.size := by omega); (try have dQ0 : _ < wq.heap.size := Nat.lt_of_lt_of_le dQ0 (by omega)); (try have dQ1 : _ < wq.heap.size := Nat.lt_of_lt_of_le dQ1 (by omega)); (try have dQ2 : _ < wq.heap.size := Nat.lt_of_lt_of_le dQ2 (by omega)); (try have dQ3 : _ < wq.heap.size := Nat.lt_of_lt_of_le dQ3 (by omega)); (try have dQ4 : _ < wq.heap.size := Nat.lt_of_lt_of_le dQ4 (by omega)); (try have dQ5 : _ < wq.heap.size := Nat.lt_of_lt_of_le dQ5 (by omega)); (try (have hnQ := Nat.lt_of_succ_le hz; first | (have _x := dQ0; first | (have _x := dQ1; first | (have _x := dQ2; first | (have _x := dQ3; first | (have _x := dQ4; have dQ5 := hnQ) | have dQ4 := hnQ) | have dQ3 := hnQ) | have dQ2 := hnQ) | have dQ1 := hnQ) | have dQ0 := hnQ)); (try (have hmQ := Nat.lt_of_succ_lt (Nat.lt_of_succ_le hz); first | (have _x := dQ0; first | (have _x := dQ1; first | (have _x := dQ2; first | (have _x := dQ3; first | (have _x := dQ4; have dQ5 := hmQ) | have dQ4 := hmQ) | have dQ3 := hmQ) | have dQ2 := hmQ) | have dQ1 := hmQ) | have dQ0 := hmQ)); have hSq := hS3.keep hb; have hLq := hL3.keep hb; have hNq := hN3.keep hb; have hBq := below_via hb hB3 (by omega)))
              go_roundw
              case rel => exact ⟨j + 1, by omega, by go_num, by rw [HT.out]; exact hSq, by rw [HT.out]; exact hLq, hNq, hBq⟩
              case measure => simp [intOf]; omega
            · rw [hV] at HT
              clear hV
              have hm5 := (Own.boolAt hS2 q.toNat (by rw [hok2.size]; omega)).1
              rw [hsn] at hm5
              obtain ⟨_, hsome, hfro⟩ := Own.store hS2 rfl q.toNat (by rw [hok2.size]; omega) true (.bool true) rfl
              have hllQ : s'.list.length ≤ 1099511627776 := by omega
              go_wp2_with (first | (go_at_call 43; refine (HCL.out _).mono ?_; rintro e w' ⟨rfl, hb⟩; obtain ⟨hc, hf, hz, hy⟩ := bcell hb; clear hy; (try simp only [World.size_alloc, World.size_setCell, World.size_drew] at hz); (try have gQ0 : w.heap.size < w'.heap.size := by omega); (try have gQ1 : w.heap.size + 1 < w'.heap.size := by omega); (try have gQ2 : w.heap.size + 1 + 1 < w'.heap.size := by omega); (try have gQ3 : w.heap.size + 1 + 1 + 1 < w'.heap.size := by omega); (try have gQ4 : w.heap.size + 1 + 1 + 1 + 1 < w'.heap.size := by omega); (try have gQ5 : w.heap.size + 1 + 1 + 1 + 1 + 1 < w'.heap.size := by omega); (try have dQ0 : _ < w'.heap.size := Nat.lt_of_lt_of_le dQ0 (by omega)); (try have dQ1 : _ < w'.heap.size := Nat.lt_of_lt_of_le dQ1 (by omega)); (try have dQ2 : _ < w'.heap.size := Nat.lt_of_lt_of_le dQ2 (by omega)); (try have dQ3 : _ < w'.heap.size := Nat.lt_of_lt_of_le dQ3 (by omega)); (try have dQ4 : _ < w'.heap.size := Nat.lt_of_lt_of_le dQ4 (by omega)); (try have dQ5 : _ < w'.heap.size := Nat.lt_of_lt_of_le dQ5 (by omega)); (try (have hnQ := Nat.lt_of_succ_le hz; first | (have _x := dQ0; first | (have _x := dQ1; first | (have _x := dQ2; first | (have _x := dQ3; first | (have _x := dQ4; have dQ5 := hnQ) | have dQ4 := hnQ) | have dQ3 := hnQ) | have dQ2 := hnQ) | have dQ1 := hnQ) | have dQ0 := hnQ)); (try (have hmQ := Nat.lt_of_succ_lt (Nat.lt_of_succ_le hz); first | (have _x := dQ0; first | (have _x := dQ1; first | (have _x := dQ2; first | (have _x := dQ3; first | (have _x := dQ4; have dQ5 := hmQ) | have dQ4 := hmQ) | have dQ3 := hmQ) | have dQ2 := hmQ) | have dQ1 := hmQ) | have dQ0 := hmQ)); have hS3 := hS2.keep hb; have hL3 := hL2.keep hb; have hN3 := hN2.keep hb; have hB3 := below_via hb hbw2 (by omega)) | ((with_reducible refine wp_region_qb ?_ ?_ (fun hq => ?_)); (focus kernel_rfl); (focus kernel_rfl); (repeat (go_big_quiet_step (fail))); refine wpQuiet_nil ?_; intro wq hb; obtain ⟨hc, hf, hz, hy⟩ := bcell hb; clear hq hy; (try simp only [World.size_alloc, World.size_setCell, World.size_drew] at hz); (try have gQ0 : w.heap.size < wq.heap.size := by omega); (try have gQ1 : w.heap.size + 1 < wq.heap.size := by omega); (try have gQ2 : w.heap.size + 1 + 1 < wq.heap.size := by omega); (try have gQ3 : w.heap.size + 1 + 1 + 1 < wq.heap.size := by omega); (try have gQ4 : w.heap.size + 1 + 1 + 1 + 1 < wq.heap.size := by omega); (try have gQ5 : w.heap.size + 1 + 1 + 1 + 1 + 1 < wq.heap.size := by omega); (try have dQ0 : _ < wq.heap.size := Nat.lt_of_lt_of_le dQ0 (by omega)); (try have dQ1 : _ < wq.heap.size := Nat.lt_of_lt_of_le dQ1 (by omega)); (try have dQ2 : _ < wq.heap.size := Nat.lt_of_lt_of_le dQ2 (by omega)); (try have dQ3 : _ < wq.heap.size := Nat.lt_of_lt_of_le dQ3 (by omega)); (try have dQ4 : _ < wq.heap.size := Nat.lt_of_lt_of_le dQ4 (by omega)); (try have dQ5 : _ < wq.heap.size := Nat.lt_of_lt_of_le dQ5 (by omega)); (try (have hnQ := Nat.lt_of_succ_le hz; first | (have _x := dQ0; first | (have _x := dQ1; first | (have _x := dQ2; first | (have _x := dQ3; first | (have _x := dQ4; have dQ5 := hnQ) | have dQ4 := hnQ) | have dQ3 := hnQ) | have dQ2 := hnQ) | have dQ1 := hnQ) | have dQ0 := hnQ)); (try (have hmQ := Nat.lt_of_succ_lt (Nat.lt_of_succ_le hz); first | (have _x := dQ0; first | (have _x := dQ1; first | (have _x := dQ2; first | (have _x := dQ3; first | (have _x := dQ4; have dQ5 := hmQ) | have dQ4 := hmQ) | have dQ3 := hmQ) | have dQ2 := hmQ) | have dQ1 := hmQ) | have dQ0 := hmQ)); have hSq := hS3.keep hb; have hLq := hL3.keep hb; have hNq := hN3.keep hb; have hBq := below_via hb hB3 (by omega)) | (at_builtin; have hst := (Own.store hSq rfl q.toNat (by rw [hok2.size]; omega) true (.bool true) rfl).1; have hLq2 := hLq.setBelow (a := ⟨w.heap.size + 1, q.toNat, none⟩) (by simp; omega) (.bool true); have hNq2 := hNq.setBelow (a := ⟨w.heap.size + 1, q.toNat, none⟩) (by simp) (.bool true); (refine append1 (E := EInt) (c := 1) (v := .slice (some ⟨bK2, 0, none⟩) s'.list.length capK2) (l := s'.list) rfl rfl _ _ 61 rfl Try.underlying61 rfl hLq2 q (by simp only [World.size_setCell]; rfl) hllQ (by simp; omega) ?_); intro v' w2 hown2 hb2 hg2))
              have hS5 := (hst.alloc (.cells (EInt.enc q).toArray EInt.e)).grown hg2 (.inl (by simp [Value.ownBlock]; omega))
              have hN5 := (hNq2.alloc (.cells (EInt.enc q).toArray EInt.e)).grown hg2 (.inl (by simp [Value.ownBlock]; omega))
              go_roundw
              case rel => exact ⟨j + 1, by omega, by go_num, by rw [HT.out]; exact hS5, by rw [HT.out]; exact hown2, hN5, (hBq.setCell (by simp) _).trans (hb2.mono (by omega))⟩
              case measure => simp [intOf]; omega
        · go_wp2_with fail
          have hjL : L.take j = L := List.take_of_length_le (by omega)
          rw [hjL] at hS2 hL2
          go_roundw
          case rel => exact ⟨k + 1, by rw [HE2.out]; have := visits_len (N := N) back pk L s; omega, by go_num, by rw [HE2.out]; exact hS2, by rw [HE2.out]; exact hL2, hN2, hbw2⟩
          case measure => simp [intOf]; omega
    · have hz2 := HZ.out (by omega)
      obtain ⟨aK, capK, rfl, hnK, hgetK⟩ := hLs.int
      clear hgetK
      go_wp2_with fail
      go_ret
      exact ⟨_, rfl, by rw [HF.out, ← hz2]; exact hS.mono (by omega), HW.out.trans (hbw.mono (by omega))⟩
end Go.Proofs.Ytledmebhlmpjaaa
