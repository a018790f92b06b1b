/- The program's ReadGame returns what the reference's returns, for all arguments. The listed tables stand as the program's text lays them. -/
import Derived.Test.YtkaojpcpfbbicaaDoorCardS
import Derived.Test.YtkaojpcpfbbicaaDoorReadG2
import Derived.Test.YtkaojpcpfbbicaaDoorReadG3
import Derived.Test.YtkaojpcpfbbicaaDoorEqs
import Derived.Test.YtkaojpcpfbbicaaDoorOpen
import Derived.Test.YtkaojpcpfbbicaaDoorArgL
import Derived.Test.YtkaojpcpfbbicaaDoorCards
set_option linter.unusedVariables false
set_option linter.unusedSimpArgs false
namespace Peg
theorem readGI_le {a b o : Int} {s : ByteArray} {L : List Ln} (h : readGI a b o s = some L) : L.length ≤ 60 := by
  obtain ⟨h1, h2⟩ := readGI_iff.1 h
  exact (game_valid h1 h2).2.1
end Peg
namespace Go.Proofs.YtkaojpcpfbbicaaDoor.fnExactReadGame
open Go.ChangeShapes Go.WideShapes Go.ChangeAt Go.RowKit Peg Go.Sort
open Go.ChangeMaps (open_string)

set_option maxHeartbeats 2000000 in
set_option maxRecDepth 100000 in
theorem law_any (a b o : Int) (s : ByteArray) (wa : (Lit.int .i64 a).wf = true) (wb : (Lit.int .i64 b).wf = true) (wo : (Lit.int .i64 o).wf = true) (ws : s.size ≤ maxLen) (w : World) (ht : HTab w) (hm : MaxCell w) :
    Calls Tryd.prog 7 #[.agg #[.int .i64 a, .int .i64 b, .int .i64 o], .string s] w fun e w' => e = .returned (.bool true) ∧ Below w.heap.size w w' := by
  unfold maxLen at ws
  clear ht
  by_cases hbig : 1048576 < s.size
  · clear hm
    go_enter Tryd.func7, Tryd.ntmps7
    go_wp2_with fail
    go_ret
    exact ⟨by simp, by (repeat' first | (with_reducible exact Below.refl _ _) | (with_reducible refine Below.alloc ?_ ?_ _) | (with_reducible refine Below.drew ?_) | (with_reducible refine Below.setCell ?_ ?_ _) | (with_reducible refine below_via (by assumption) ?_ ?_) | go_size)⟩
  have HMX := Lib.hid hm
  have hsz : s.size ≤ 1048576 := by omega
  have HA : Hid (∀ W, MaxCell W → Calls Tryd.prog 25 #[.agg #[.int .i64 a, .int .i64 b, .int .i64 o], .string s] W (RetRG W (readGI a b o s))) := fun W hm => ReadGame_any a b o s hsz W hm
  have HB : Hid (∀ W, Calls Tryd.prog 24 #[.agg #[.int .i64 a, .int .i64 b, .int .i64 o], .string s] W (RetRG W (readGI a b o s))) := fun W => by rw [readG_same]; exact sReadGame_any a b o s hsz W
  have hL60 : ((readGI a b o s).getD []).length ≤ 60 := by
    cases h : readGI a b o s with
    | none => simp
    | some L => exact readGI_le h
  clear hm wa wb wo
  unfold RetRG at HA HB
  generalize (readGI a b o s).isSome = q at *
  generalize (readGI a b o s).getD [] = L at *
  go_enter Tryd.func7, Tryd.ntmps7
  go_wp2_with fail
  refine (toBoard_any _ _ _ _).mono ?_
  rintro e w' ⟨rfl, hb⟩
  obtain ⟨hc, hf, hz, hy⟩ := bcell hb; clear hy; (try simp only [World.size_alloc, World.size_setCell, World.size_drew] at hz); (try have gQ0 : w.heap.size < w'.heap.size := by omega); (try have gQ1 : w.heap.size + 1 < w'.heap.size := by omega); (try have gQ2 : w.heap.size + 1 + 1 < w'.heap.size := by omega); (try have gQ3 : w.heap.size + 1 + 1 + 1 < w'.heap.size := by omega); (try have gQ4 : w.heap.size + 1 + 1 + 1 + 1 < w'.heap.size := by omega); (try have gQ5 : w.heap.size + 1 + 1 + 1 + 1 + 1 < w'.heap.size := by omega); (try have dQ0 : _ < w'.heap.size := Nat.lt_of_lt_of_le dQ0 (by omega)); (try have dQ1 : _ < w'.heap.size := Nat.lt_of_lt_of_le dQ1 (by omega)); (try have dQ2 : _ < w'.heap.size := Nat.lt_of_lt_of_le dQ2 (by omega)); (try have dQ3 : _ < w'.heap.size := Nat.lt_of_lt_of_le dQ3 (by omega)); (try have dQ4 : _ < w'.heap.size := Nat.lt_of_lt_of_le dQ4 (by omega)); (try have dQ5 : _ < w'.heap.size := Nat.lt_of_lt_of_le dQ5 (by omega)); (try (have hnQ := Nat.lt_of_succ_le hz; first | (have _x := dQ0; first | (have _x := dQ1; first | (have _x := dQ2; first | (have _x := dQ3; first | (have _x := dQ4; have dQ5 := hnQ) | have dQ4 := hnQ) | have dQ3 := hnQ) | have dQ2 := hnQ) | have dQ1 := hnQ) | have dQ0 := hnQ)); (try (have hmQ := Nat.lt_of_succ_lt (Nat.lt_of_succ_le hz); first | (have _x := dQ0; first | (have _x := dQ1; first | (have _x := dQ2; first | (have _x := dQ3; first | (have _x := dQ4; have dQ5 := hmQ) | have dQ4 := hmQ) | have dQ3 := hmQ) | have dQ2 := hmQ) | have dQ1 := hmQ) | have dQ0 := hmQ))
  go_wp2_with fail
  refine (HB.out _).mono ?_
  rintro e w' ⟨v1, rfl, own1, hb⟩
  obtain ⟨hc, hf, hz, hy⟩ := bcell hb; clear hy; (try simp only [World.size_alloc, World.size_setCell, World.size_drew] at hz); (try have gQ0 : w.heap.size < w'.heap.size := by omega); (try have gQ1 : w.heap.size + 1 < w'.heap.size := by omega); (try have gQ2 : w.heap.size + 1 + 1 < w'.heap.size := by omega); (try have gQ3 : w.heap.size + 1 + 1 + 1 < w'.heap.size := by omega); (try have gQ4 : w.heap.size + 1 + 1 + 1 + 1 < w'.heap.size := by omega); (try have gQ5 : w.heap.size + 1 + 1 + 1 + 1 + 1 < w'.heap.size := by omega); (try have dQ0 : _ < w'.heap.size := Nat.lt_of_lt_of_le dQ0 (by omega)); (try have dQ1 : _ < w'.heap.size := Nat.lt_of_lt_of_le dQ1 (by omega)); (try have dQ2 : _ < w'.heap.size := Nat.lt_of_lt_of_le dQ2 (by omega)); (try have dQ3 : _ < w'.heap.size := Nat.lt_of_lt_of_le dQ3 (by omega)); (try have dQ4 : _ < w'.heap.size := Nat.lt_of_lt_of_le dQ4 (by omega)); (try have dQ5 : _ < w'.heap.size := Nat.lt_of_lt_of_le dQ5 (by omega)); (try (have hnQ := Nat.lt_of_succ_le hz; first | (have _x := dQ0; first | (have _x := dQ1; first | (have _x := dQ2; first | (have _x := dQ3; first | (have _x := dQ4; have dQ5 := hnQ) | have dQ4 := hnQ) | have dQ3 := hnQ) | have dQ2 := hnQ) | have dQ1 := hnQ) | have dQ0 := hnQ)); (try (have hmQ := Nat.lt_of_succ_lt (Nat.lt_of_succ_le hz); first | (have _x := dQ0; first | (have _x := dQ1; first | (have _x := dQ2; first | (have _x := dQ3; first | (have _x := dQ4; have dQ5 := hmQ) | have dQ4 := hmQ) | have dQ3 := hmQ) | have dQ2 := hmQ) | have dQ1 := hmQ) | have dQ0 := hmQ))
  obtain ⟨w1, rfl⟩ : ∃ w1 : World, w1 = w' := ⟨_, rfl⟩
  have O1 := Lib.hid own1
  have HW1 := Lib.hid (show Below w.heap.size w w1 by (repeat' first | (with_reducible exact Below.refl _ _) | (with_reducible refine Below.alloc ?_ ?_ _) | (with_reducible refine Below.drew ?_) | (with_reducible refine Below.setCell ?_ ?_ _) | (with_reducible refine below_via (by assumption) ?_ ?_) | go_size))
  have hbox1 : ∀ j, w1.cell? ⟨w.heap.size, j, none⟩ = #[Value.int .i64 a, .int .i64 b, .int .i64 o][j]? := fun j => by simp [hc, hz, *]
  have HX1 := Lib.hid hbox1
  have g1 : w.heap.size < w1.heap.size := by omega
  clear own1 hc hf
  go_wp2_with fail
  refine (toBoard_any _ _ _ _).mono ?_
  rintro e w' ⟨rfl, hb⟩
  clear hbox1
  have O1b := Lib.hid (O1.out.keep hb)
  have HB2 := Lib.hid hb
  have hz1 := hb.size
  clear hb
  go_wp2_with fail
  refine (HA.out _ (HMX.out.keep (HW1.out.trans (HB2.out.mono HW1.out.size)))).mono ?_
  rintro e w' ⟨v2, rfl, own2, hb⟩
  have O1c := Lib.hid (O1b.out.keep hb)
  have HB3 := Lib.hid (HB2.out.trans (hb.mono HB2.out.size))
  have O2 := Lib.hid (own2.mono hz1)
  clear own2 O1b HB2 hb
  go_wp2_with fail
  refine (eqLineS_same _ _ _ _ O2.out O1c.out).mono ?_
  rintro e w' ⟨rfl, hb⟩
  have O1d := Lib.hid (O1c.out.keep hb)
  have O2d := Lib.hid (O2.out.keep hb)
  have HB4 := Lib.hid (HB3.out.trans (hb.mono HB3.out.size))
  clear O1c O2 HB3 hb
  go_wp2_with fail
  refine (markLineS_any _ _ _ (by omega) (by omega) (by omega) _ O2d.out).mono ?_
  rintro e w' ⟨rfl, own2, hg2⟩
  have O1e := Lib.hid (O1d.out.apart O1.out O2d.out (Nat.le_refl _) hg2)
  have O2e := Lib.hid own2
  have HB5 := Lib.hid (HB4.out.trans (O2d.out.apartBelow (B := w1.heap.size) (Nat.le_refl _) HB4.out.size hg2))
  clear O1d O2d HB4 own2 hg2
  go_wp2_with fail
  refine (heldLineS_same _ _ _ (by omega) (by omega) (by omega) _ O2e.out).mono ?_
  rintro e w' ⟨rfl, rfl⟩
  have hbox : ∀ j, w'.cell? ⟨w.heap.size, j, none⟩ = #[Value.int .i64 a, .int .i64 b, .int .i64 o][j]? := fun j => (HB5.out.cell (by exact g1)).trans (HX1.out j)
  go_wp2_with fail
  refine (toBoard_any _ _ _ _).mono ?_
  rintro e w' ⟨rfl, hb⟩
  have O1f := Lib.hid (O1e.out.keep hb)
  have O2f := Lib.hid (O2e.out.keep hb)
  have HB6 := Lib.hid (HB5.out.trans (hb.mono HB5.out.size))
  clear O1e O2e HB5 hbox hb
  go_wp2_with fail
  refine (HA.out _ (HMX.out.keep (HW1.out.trans (HB6.out.mono HW1.out.size)))).mono ?_
  rintro e w' ⟨v3, rfl, own3, hb⟩
  have O1g := Lib.hid (O1f.out.keep hb)
  have O2g := Lib.hid (O2f.out.keep hb)
  have HB7 := Lib.hid (HB6.out.trans (hb.mono HB6.out.size))
  clear O1f O2f HB6 hb
  go_wp2_with fail
  refine (eqLineS_same _ _ _ _ own3 O1g.out).mono ?_
  rintro e w' ⟨rfl, hb⟩
  have O2h := Lib.hid (O2g.out.keep hb)
  have HB8 := Lib.hid (HB7.out.trans (hb.mono HB7.out.size))
  clear O1g O2g HB7 hb
  go_wp2_with fail
  refine (heldLineS_same _ _ _ (by omega) (by omega) (by omega) _ O2h.out).mono ?_
  rintro e w' ⟨rfl, rfl⟩
  go_wp2_with fail
  go_ret
  exact ⟨by simp, HW1.out.trans (HB8.out.mono HW1.out.size)⟩

set_option maxRecDepth 100000 in
theorem law_walk : CardWalkS 7 Tryd.f7.params.toList Rows.fnExactReadGameRow.laid := by
  intro H enc W base args ds ps hval hA hL hSh
  rw [MakeChecks.laidMetH_plain _ _ _ (by kernel_rfl)] at hL
  have ht : HTab W := htab_of hL
  clear hL
  rw [Tryd.params7] at hA hval
  obtain ⟨v0, vs0, d0, ds0, p0, q0, hargs, rfl, rfl, h0, r0⟩ := trodAll_cons hA
  obtain ⟨v1, vs1, d1, ds1, p1, q1, rfl, rfl, rfl, h1, r1⟩ := trodAll_cons r0
  obtain ⟨rfl, rfl, rfl⟩ := trodAll_nil r1
  obtain rfl : args = #[v0, v1] := by cases args; simp_all
  obtain ⟨x0a, x0b, x0c, rfl, w0a, w0b, w0c⟩ := arg_Board (hval 0 _ _ rfl rfl) h0
  obtain ⟨x1, rfl, rfl, rfl, w1⟩ := open_string Tryd.underlying9 (hval 1 _ _ rfl rfl) h1
  exact law_any x0a x0b x0c x1 w0a w0b w0c w1 W ht (MaxCell.of W hSh)

set_option maxRecDepth 100000 in
theorem lifted (os : Os) (started : os.Started) (H : Type) (enc : TypeId × Value → H) :
    ReturnsInHanded {} Tryd.checked os 7 .any (fun w args => (Rows.fnExactReadGameSpec.pre enc Tryd.prog Tryd.f7 [] false w args ∧ laidMetH Tryd.prog Rows.fnExactReadGameRow.laid w) ∧ sizedMet enc Tryd.prog Tryd.f7 (OpenSpec.ofChange Rows.fnExactReadGameSpec) false w args) (Rows.fnExactReadGameSpec.post enc Tryd.prog Tryd.f7 false true false false) :=
  card_lift_s started (by kernel_rfl) Tryd.func7
    (ChangeSpec.witness_shaped (enc := enc) (C := Tryd.checked) (os := os) (X := fun w _ => laidMetH Tryd.prog Rows.fnExactReadGameRow.laid w) false (World.laidAll Tryd.prog os Rows.fnExactReadGameRow.laid) #[.agg #[.int .i64 0, .int .i64 0, .int .i64 0], .string ByteArray.empty] 8 (World.laidAll_os _ _ _)
      (World.shaped_of_ZipB (by kernel_rfl) (by kernel_rfl)) (by kernel_rfl) (by kernel_rfl) (by kernel_rfl)
      (by rw [MakeChecks.laidMetH_plain _ _ _ (by kernel_rfl)]; exact laidMet_laidAll _ (by kernel_rfl) (by kernel_rfl)))
    rfl rfl (readable_all (by kernel_rfl)) (by intro ds h; match ds, h with | [a0, a1], _ => rfl) law_walk

theorem over : Rows.fnExactReadGameRow.holds Tryd.pinned (OpenSpec.ofChange Rows.fnExactReadGameSpec) :=
  OpenClaim.holds_of_wide 7 Tryd.f7 rfl rfl rfl rfl rfl rfl rfl ⟨rfl, rfl, rfl, rfl, rfl⟩ rfl rfl rfl rfl rfl (by kernel_rfl) Tryd.func7 (by kernel_rfl)
    (of_decide_eq_true (by kernel_rfl)) (by unfold Func.isWrapper; first | (rw [if_pos (by decide +kernel)]; kernel_rfl) | (rw [if_neg (by decide +kernel)]; exact ⟨rfl, rfl⟩))
    (fun os started H enc _ => lifted os started H enc)

theorem proved : Rows.FnExactReadGameCardSaid :=
  Claim7.holds_tied_plain_at .later [] [.data, .data, .data, .data, .pinned] true (true, "5828c335e3e33a8983c50da5d50c33a2dc7594e3330d9515997873203da2638e") false over (fun _ h => by cases h) (by kernel_rfl) (fun _ h => by cases h) fnExactReadGame_row_tie rfl ⟨rfl, rfl⟩ (by kernel_rfl) rfl
    (fun f fn hf hfn => by
      obtain rfl : f = 7 := Option.some.inj ((show Tryd.prog.funcNamed "loop.example/g03302/laws.FnExactReadGame" = some 7 by kernel_rfl).symm.trans hf) |>.symm
      obtain rfl : fn = Tryd.f7 := (Option.some.inj (Tryd.func7.symm.trans hfn)).symm
      exact ⟨by kernel_rfl, fun j t ht => by
        have hall : (Tryd.f7.params.toList.all fun u => !Tryd.prog.wantsStandIn u) = true := by kernel_rfl
        have hm : t ∈ Tryd.f7.params.toList := by simpa using Array.mem_of_getElem? ht
        exact (show Tryd.prog.wantsStandIn t = false by simpa using List.all_eq_true.1 hall t hm)⟩)
    (by kernel_rfl)
#print axioms proved
end Go.Proofs.YtkaojpcpfbbicaaDoor.fnExactReadGame
