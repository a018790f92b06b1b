/- PzD: several texts in one (Open, OpenS, Cur, Cur2, DrawK, DrawKt). Conditions: those that each theorem names. -/
import Derived.Test.YtledmebhlmpjaaaPzA
import Derived.Test.YtledmebhlmpjaaaPzB
import Derived.Deep.Slices
import Derived.Laws.BitsLemmas
set_option linter.unusedVariables false
set_option linter.unusedSimpArgs false
namespace Go.Proofs.Ytledmebhlmpjaaa
open Go.ChangeShapes Go.WideShapes Go.ChangeAt Go.RowKit
set_option maxRecDepth 100000
section
variable {H : Type} {enc : TypeId × Value → H} {W : World} {sp : Nat → Bool}
theorem cells_int : Try.prog.cellsOf 3 = 1 := by kernel_rfl
theorem cells_bool : Try.prog.cellsOf 4 = 1 := by kernel_rfl
theorem cells_Board : Try.prog.cellsOf 23 = 3 := by kernel_rfl
theorem open_Board {fuel : Nat} {cs : List Value} {x : DataW H × List MemPlace} (h : DataW.trod enc Try.prog W 0 sp true fuel 23 cs = some x) :
    ∃ (a0 : Int) (a1 : Int) (a2 : Int), cs = [.int .i64 a0, .int .i64 a1, .int .i64 a2] ∧ (Lit.int .i64 a0).wf = true ∧ (Lit.int .i64 a1).wf = true ∧ (Lit.int .i64 a2).wf = true := by
  obtain ⟨xs, n, _, _, hl, hxs, hf⟩ := DataW.trod_struct Try.underlying23 h
  rw [cells_Board] at hl
  match cs, hl, xs, hxs with
  | [c0, c1, c2], _, [y0, y1, y2], _ =>
    obtain ⟨a0, e0, _, w0⟩ := DataW.trod_int Try.underlying3 (by simpa [cells_int] using hf 0 _ rfl)
    simp at e0
    obtain ⟨a1, e1, _, w1⟩ := DataW.trod_int Try.underlying3 (by simpa [cells_int] using hf 1 _ rfl)
    simp at e1
    obtain ⟨a2, e2, _, w2⟩ := DataW.trod_int Try.underlying3 (by simpa [cells_int] using hf 2 _ rfl)
    simp at e2
    exact ⟨a0, a1, a2, by simp [e0, e1, e2], w0, w1, w2⟩
theorem arg_Board {v : Value} {d : DataW H} {p : List MemPlace} {b0 : Nat} (hv : Value.okWide Try.prog W .any b0 23 v) (h : DataW.Trod enc Try.prog W 0 sp true 23 v d p) :
    ∃ (a0 : Int) (a1 : Int) (a2 : Int), v = .agg #[.int .i64 a0, .int .i64 a1, .int .i64 a2] ∧ (Lit.int .i64 a0).wf = true ∧ (Lit.int .i64 a1).wf = true ∧ (Lit.int .i64 a2).wf = true := by
  obtain ⟨cs, rfl, _⟩ := okWide_struct Try.underlying23 hv
  obtain ⟨fuel, hf⟩ := h
  obtain ⟨a0, a1, a2, e, w0, w1, w2⟩ := open_Board (cs := cs.toList) (by simpa [Value.cells] using hf)
  refine ⟨a0, a1, a2, ?_, w0, w1, w2⟩
  obtain ⟨l⟩ := cs
  simp at e
  rw [e]
theorem cells_Puzzle : Try.prog.cellsOf 25 = 5 := by kernel_rfl
theorem open_Puzzle {fuel : Nat} {cs : List Value} {x : DataW H × List MemPlace} (h : DataW.trod enc Try.prog W 0 sp true fuel 25 cs = some x) :
    ∃ (a0 : Int) (a1 : Int) (a2 : Int) (a3 : Int) (a4 : Int), cs = [.int .i64 a0, .int .i64 a1, .int .i64 a2, .int .i64 a3, .int .i64 a4] ∧ (Lit.int .i64 a0).wf = true ∧ (Lit.int .i64 a1).wf = true ∧ (Lit.int .i64 a2).wf = true ∧ (Lit.int .i64 a3).wf = true ∧ (Lit.int .i64 a4).wf = true := by
  obtain ⟨xs, n, _, _, hl, hxs, hf⟩ := DataW.trod_struct Try.underlying25 h
  rw [cells_Puzzle] at hl
  match cs, hl, xs, hxs with
  | [c0, c1, c2, c3, c4], _, [y0, y1, y2], _ =>
    obtain ⟨a0, a1, a2, e0, w0, w1, w2⟩ := open_Board (by simpa [cells_Board] using hf 0 _ rfl)
    simp at e0
    obtain ⟨a3, e3, _, w3⟩ := DataW.trod_int Try.underlying3 (by simpa [cells_int] using hf 1 _ rfl)
    simp at e3
    obtain ⟨a4, e4, _, w4⟩ := DataW.trod_int Try.underlying3 (by simpa [cells_int] using hf 2 _ rfl)
    simp at e4
    exact ⟨a0, a1, a2, a3, a4, by simp [e0, e3, e4], w0, w1, w2, w3, w4⟩
theorem arg_Puzzle {v : Value} {d : DataW H} {p : List MemPlace} {b0 : Nat} (hv : Value.okWide Try.prog W .any b0 25 v) (h : DataW.Trod enc Try.prog W 0 sp true 25 v d p) :
    ∃ (a0 : Int) (a1 : Int) (a2 : Int) (a3 : Int) (a4 : Int), v = .agg #[.int .i64 a0, .int .i64 a1, .int .i64 a2, .int .i64 a3, .int .i64 a4] ∧ (Lit.int .i64 a0).wf = true ∧ (Lit.int .i64 a1).wf = true ∧ (Lit.int .i64 a2).wf = true ∧ (Lit.int .i64 a3).wf = true ∧ (Lit.int .i64 a4).wf = true := by
  obtain ⟨cs, rfl, _⟩ := okWide_struct Try.underlying25 hv
  obtain ⟨fuel, hf⟩ := h
  obtain ⟨a0, a1, a2, a3, a4, e, w0, w1, w2, w3, w4⟩ := open_Puzzle (cs := cs.toList) (by simpa [Value.cells] using hf)
  refine ⟨a0, a1, a2, a3, a4, ?_, w0, w1, w2, w3, w4⟩
  obtain ⟨l⟩ := cs
  simp at e
  rw [e]
end
end Go.Proofs.Ytledmebhlmpjaaa
namespace Go.Proofs.Ytledmebhlmpjaaa
open Go.ChangeShapes Go.WideShapes Go.ChangeAt Go.RowKit
set_option maxRecDepth 100000
section
variable {H : Type} {enc : TypeId × Value → H} {W : World} {sp : Nat → Bool}
theorem rd_of_trod {α : Type} (E : Elt α) (ok : α → Prop) (x0 : α) {t e : TypeId} {fuel : Nat} {cs : List Value} {x : DataW H × List MemPlace} (ht : Try.prog.underlying t = some (.slice e)) (hC : Try.prog.cellsOf e = E.size)
    (hel : ∀ fuel cs x, DataW.trod enc Try.prog W 0 sp true fuel e cs = some x → ∃ y, cs = E.enc y ∧ ok y)
    (h : DataW.trod enc Try.prog W 0 sp true fuel t cs = some x) : ∃ v l, cs = [v] ∧ Rd E W v l ∧ ∀ y ∈ l, ok y := by
  rcases Go.Deep.open_slice ht h with ⟨hcs, _⟩ | ⟨a, len, cap, m, n, D, Pl, hcs, hb, hl, hm, hmm, hx, hi⟩
  · exact ⟨_, [], hcs, ⟨none, 0, rfl, by simp, fun i hi => by simp at hi⟩, by simp⟩
  have hlm : len ≤ m := by rw [hmm]; split <;> omega
  have hall : ∀ i, ∃ y, i < len → ok y ∧ a.block < W.heap.size ∧ ∀ j, j < E.size → W.cell? (a.add (i * E.size + j)) = (E.enc y)[j]? := by
    intro i
    by_cases hlt : i < len
    · obtain ⟨cs', hc, ht'⟩ := hi i (by omega)
      rw [hC] at hc
      obtain ⟨y, hy, hok⟩ := hel _ _ _ ht'
      obtain ⟨_, hcl, hat⟩ := World.cells?_some hc
      refine ⟨y, fun _ => ⟨hok, ?_, fun j hj => ?_⟩⟩
      · have h0 := hat 0 E.pos
        have hcl0 : cs'[0]? = some (cs'[0]'(by rw [hcl]; exact E.pos)) := List.getElem?_eq_getElem _
        rw [hcl0] at h0
        have := World.block_lt_of_cell? W _ h0
        rwa [add_block, add_block] at this
      · rw [← hy, ← hat j hj, add_of_add]
    · exact ⟨x0, fun h => absurd h hlt⟩
  refine ⟨_, (List.range len).map fun i => Classical.choose (hall i), hcs, ⟨some a, cap, by simp, by unfold maxLen at hm; simp; omega, fun i hi' => ?_⟩, ?_⟩
  · have hlt : i < len := by simpa using hi'
    obtain ⟨_, h1, h2⟩ := Classical.choose_spec (hall i) hlt
    refine ⟨a, rfl, h1, fun j hj => ?_⟩
    simpa using h2 j hj
  · intro y hy
    simp only [List.mem_map, List.mem_range] at hy
    obtain ⟨i, hlt, rfl⟩ := hy
    exact (Classical.choose_spec (hall i) hlt).1
theorem arg_rd {α : Type} (E : Elt α) (ok : α → Prop) (x0 : α) {t e : TypeId} {v : Value} {d : DataW H} {p : List MemPlace} {b0 : Nat} (ht : Try.prog.underlying t = some (.slice e)) (hC : Try.prog.cellsOf e = E.size)
    (hel : ∀ fuel cs x, DataW.trod enc Try.prog W 0 sp true fuel e cs = some x → ∃ y, cs = E.enc y ∧ ok y)
    (hv : Value.okWide Try.prog W .any b0 t v) (h : DataW.Trod enc Try.prog W 0 sp true t v d p) : ∃ l, Rd E W v l ∧ ∀ y ∈ l, ok y := by
  obtain ⟨a, len, cap, rfl⟩ := okWide_slice ht hv
  obtain ⟨fuel, hf⟩ := h
  obtain ⟨v', l, e, h1, h2⟩ := rd_of_trod E ok x0 ht hC hel hf
  simp [Value.cells] at e
  subst e
  exact ⟨l, h1, h2⟩
def LnWf (l : Peg.Ln) : Prop := (Lit.int .i64 l.f).wf = true ∧ (Lit.int .i64 l.o).wf = true ∧ (Lit.int .i64 l.t).wf = true
def IntWf (n : Int) : Prop := (Lit.int .i64 n).wf = true
theorem arg_IntS {v : Value} {d : DataW H} {p : List MemPlace} {b0 : Nat} (hv : Value.okWide Try.prog W .any b0 61 v) (h : DataW.Trod enc Try.prog W 0 sp true 61 v d p) : ∃ l, Rd EInt W v l ∧ ∀ y ∈ l, IntWf y :=
  arg_rd EInt IntWf 0 Try.underlying61 cells_int (fun fuel cs x hx => by
    obtain ⟨a0, e0, _, w0⟩ := DataW.trod_int Try.underlying3 hx
    exact ⟨a0, e0, w0⟩) hv h
end
end Go.Proofs.Ytledmebhlmpjaaa
namespace Go.Proofs.Ytledmebhlmpjaaa
open Go.ChangeShapes Go.WideShapes Go.ChangeAt Go.RowKit Peg Go.Sort
theorem info_u8c : (Try.prog.info? 5).map (fun i => (i.zero, i.size, i.bytes)) = some (some (.int .u8 0), 1, 1) := by kernel_rfl
def EBy : Elt Int where
  e := 5
  size := 1
  bytes := 1
  enc x := [.int .u8 x]
  len _ := rfl
  one _ u hu := by simp at hu; subst hu; rfl
  pos := by decide
  small := by decide
  info := ⟨_, info_u8c, rfl⟩
def ByOk (n : Int) : Prop := 0 ≤ n ∧ n ≤ 255
theorem Rd.by {w : World} {v : Value} {l : List Int} (h : Rd EBy w v l) (hok : ∀ y ∈ l, ByOk y) : ∃ a cap, v = .slice a l.length cap ∧ l.length ≤ 9223372036854775807 ∧
    ∀ i, i < l.length → ∃ (ad : Addr) (x : Int), a = some ad ∧ ad.block < w.heap.size ∧ w.cell? (ad.add i) = some (.int .u8 x) ∧ 0 ≤ x ∧ x ≤ 255 := by
  obtain ⟨a, cap, hv, h1, h3⟩ := h
  refine ⟨a, cap, hv, h1, fun i hi => ?_⟩
  obtain ⟨ad, hb, h5, h6⟩ := h3 i hi
  have := hok l[i] (List.getElem_mem hi)
  exact ⟨ad, l[i], hb, h5, by simpa [EBy] using h6 0 (by decide), this.1, this.2⟩
theorem cells_u8 : Try.prog.cellsOf 5 = 1 := by kernel_rfl
section
open Go.ChangeAt
variable {H : Type} {enc : TypeId × Value → H} {W : World} {sp : Nat → Bool}
set_option maxRecDepth 100000 in
theorem arg_ByteS {v : Value} {d : DataW H} {p : List MemPlace} {b0 : Nat} (hv : Value.okWide Try.prog W .any b0 32 v) (h : DataW.Trod enc Try.prog W 0 sp true 32 v d p) : ∃ l, Rd EBy W v l ∧ ∀ y ∈ l, ByOk y :=
  arg_rd EBy ByOk 0 Try.underlying32 cells_u8 (fun fuel cs x hx => by
    obtain ⟨a0, e0, _, w0⟩ := DataW.trod_int Try.underlying5 hx
    exact ⟨a0, e0, by simpa [ByOk, Lit.wf, IntKind.min, IntKind.max, IntKind.signed, IntKind.bits] using w0⟩) hv h
end
theorem big_any (v : Value) (l : List Int) (w : World) (hv : Rd EBy w v l) :
    Calls Try.prog 8 #[v] w fun e w' => e = .returned (.bool (decide ((1048576 : Int) < l.length))) ∧ w = w' := by
  obtain ⟨a, cap, rfl, _, _⟩ := hv
  go_enter Try.func8, Try.ntmps8
  go_wp2_with fail
  go_ret
  exact ⟨rfl, rfl⟩
set_option maxRecDepth 100000 in
theorem at_any (v : Value) (l : List Int) (k : Nat) (hk : k ≤ 1000) (w : World) (hv : Rd EBy w v l) (hok : ∀ y ∈ l, ByOk y) :
    Calls Try.prog 24 #[v, .int .i64 k] w fun e w' => (∃ x : Int, e = .returned (.int .i64 x) ∧ 0 ≤ x ∧ x ≤ 255) ∧ w = w' := by
  obtain ⟨a, cap, rfl, hn, hget⟩ := hv.by hok
  by_cases h0 : l.length = 0
  · go_enter Try.func24, Try.ntmps24
    rw [h0]
    go_wp2_with fail
    go_ret
    exact ⟨⟨0, rfl, by omega, by omega⟩, rfl⟩
  · have hl : (l.length : Int) ≠ 0 := by omega
    have hl0 : ((l.length : Int) == 0) = false := by rw [beq_eq_false_iff_ne]; omega
    obtain ⟨r, hr⟩ : ∃ r : Nat, ((k : Int) * 5 + 1) % (l.length : Int) = (r : Int) := ⟨(((k : Int) * 5 + 1) % (l.length : Int)).toNat, by have := Int.emod_nonneg ((k : Int) * 5 + 1) hl; omega⟩
    have hr2 : r < l.length := by have := Int.emod_lt_of_pos ((k : Int) * 5 + 1) (show (0 : Int) < (l.length : Int) by omega); omega
    obtain ⟨ad, x, rfl, hlt, hc, x0, x1⟩ := hget r hr2
    clear hget hok
    go_enter Try.func24, Try.ntmps24
    go_wp2_with ((with_reducible refine wp_region_qb ?_ ?_ (fun hq => ?_)); (focus kernel_rfl); (focus kernel_rfl); (repeat (go_big_quiet_step (fail))); refine wpQuiet_nil ?_; intro wq hb; obtain ⟨hc, hf, hz, hy⟩ := bcell hb; clear hq hy; (try simp only [World.size_alloc, World.size_setCell, World.size_drew] at hz); (try have gQ0 : w.heap.size < wq.heap.size := by omega); (try have gQ1 : w.heap.size + 1 < wq.heap.size := by omega); (try have gQ2 : w.heap.size + 1 + 1 < wq.heap.size := by omega); (try have gQ3 : w.heap.size + 1 + 1 + 1 < wq.heap.size := by omega); (try have gQ4 : w.heap.size + 1 + 1 + 1 + 1 < wq.heap.size := by omega); (try have gQ5 : w.heap.size + 1 + 1 + 1 + 1 + 1 < wq.heap.size := by omega); (try have dQ0 : _ < wq.heap.size := Nat.lt_of_lt_of_le dQ0 (by omega)); (try have dQ1 : _ < wq.heap.size := Nat.lt_of_lt_of_le dQ1 (by omega)); (try have dQ2 : _ < wq.heap.size := Nat.lt_of_lt_of_le dQ2 (by omega)); (try have dQ3 : _ < wq.heap.size := Nat.lt_of_lt_of_le dQ3 (by omega)); (try have dQ4 : _ < wq.heap.size := Nat.lt_of_lt_of_le dQ4 (by omega)); (try have dQ5 : _ < wq.heap.size := Nat.lt_of_lt_of_le dQ5 (by omega)); (try (have hnQ := Nat.lt_of_succ_le hz; first | (have _x := dQ0; first | (have _x := dQ1; first | (have _x := dQ2; first | (have _x := dQ3; first | (have _x := dQ4; have dQ5 := hnQ) | have dQ4 := hnQ) | have dQ3 := hnQ) | have dQ2 := hnQ) | have dQ1 := hnQ) | have dQ0 := hnQ)); (try (have hmQ := Nat.lt_of_succ_lt (Nat.lt_of_succ_le hz); first | (have _x := dQ0; first | (have _x := dQ1; first | (have _x := dQ2; first | (have _x := dQ3; first | (have _x := dQ4; have dQ5 := hmQ) | have dQ4 := hmQ) | have dQ3 := hmQ) | have dQ2 := hmQ) | have dQ1 := hmQ) | have dQ0 := hmQ)))
    go_ret
    exact ⟨⟨x, rfl, x0, x1⟩, rfl⟩
/-- the cursor's record lies in block c, over the slice v of n bytes -/
def CurAt (w : World) (c : Nat) (v : Value) (n : Nat) : Prop :=
  c < w.heap.size ∧ w.cell? ⟨c, 0, none⟩ = some v ∧ (∃ i : Int, w.cell? ⟨c, 1, none⟩ = some (.int .i64 i) ∧ 0 ≤ i ∧ i ≤ n) ∧ (∃ h : Int, w.cell? ⟨c, 2, none⟩ = some (.int .i64 h)) ∧ ∀ j, w.frozen? ⟨c, j, none⟩ = false
theorem CurAt.keep {w w' : World} {c n : Nat} {v : Value} (h : CurAt w c v n) (hb : Below w.heap.size w w') : CurAt w' c v n := by
  obtain ⟨h1, h2, ⟨i, h3, h4, h5⟩, ⟨x, h6⟩, h7⟩ := h
  exact ⟨Nat.lt_of_lt_of_le h1 hb.size, (hb.cell h1).trans h2, ⟨i, (hb.cell h1).trans h3, h4, h5⟩, ⟨x, (hb.cell h1).trans h6⟩, fun j => (hb.frozen h1).trans (h7 j)⟩
set_option maxRecDepth 100000 in
theorem l01New_any (v : Value) (l : List Int) (w : World) (hv : Rd EBy w v l) (hok : ∀ y ∈ l, ByOk y) (hl : l.length ≤ 1048576) :
    Calls Try.prog 35 #[v] w fun e w' => ∃ c, e = .returned (.pointer (some ⟨c, 0, none⟩)) ∧ w.heap.size ≤ c ∧ CurAt w' c v l.length ∧ Below w.heap.size w w' := by
  obtain ⟨a, cap, rfl, hn, hget⟩ := hv.by hok
  have HG := Lib.hid hget
  clear hget hok hv
  go_enter Try.func35, Try.ntmps35
  go_wp2_with fail
  go_loopw [3, 4] (fun h i wr => ∃ (k : Nat) (x : Int), k ≤ l.length ∧ i = .int .i64 k ∧ h = .int .i64 x ∧ Below w.heap.size w wr) (fun _ i _ => l.length - (intOf i).toNat)
  case atStart => exact ⟨0, _, by omega, rfl, rfl, by (repeat' first | (with_reducible exact Below.refl _ _) | (with_reducible refine Below.alloc ?_ ?_ _) | (with_reducible refine Below.drew ?_) | (with_reducible refine Below.setCell ?_ ?_ _) | (with_reducible refine below_via (by assumption) ?_ ?_) | go_size)⟩
  case round =>
    obtain ⟨k, x, hk, rfl, rfl, hbw⟩ := hrel
    have hz := hbw.size
    by_cases hlt : k < l.length
    · by_cases h4 : k < 4000
      · obtain ⟨ad, y, rfl, had, hc, y0, y1⟩ := HG.out k hlt
        have hc2 := (hbw.cell (p := ad.add k) (by rw [add_block]; exact had)).trans hc
        have had2 : (ad.add k).block < wr.heap.size := by rw [add_block]; omega
        go_wp2_with ((with_reducible refine wp_region_qb ?_ ?_ (fun hq => ?_)); (focus kernel_rfl); (focus kernel_rfl); (repeat (go_big_quiet_step (fail))); refine wpQuiet_nil ?_; intro wq hb; obtain ⟨hc, hf, hz, hy⟩ := bcell hb; clear hq hy; (try simp only [World.size_alloc, World.size_setCell, World.size_drew] at hz); (try have gQ0 : w.heap.size < wq.heap.size := by omega); (try have gQ1 : w.heap.size + 1 < wq.heap.size := by omega); (try have gQ2 : w.heap.size + 1 + 1 < wq.heap.size := by omega); (try have gQ3 : w.heap.size + 1 + 1 + 1 < wq.heap.size := by omega); (try have gQ4 : w.heap.size + 1 + 1 + 1 + 1 < wq.heap.size := by omega); (try have gQ5 : w.heap.size + 1 + 1 + 1 + 1 + 1 < wq.heap.size := by omega); (try have dQ0 : _ < wq.heap.size := Nat.lt_of_lt_of_le dQ0 (by omega)); (try have dQ1 : _ < wq.heap.size := Nat.lt_of_lt_of_le dQ1 (by omega)); (try have dQ2 : _ < wq.heap.size := Nat.lt_of_lt_of_le dQ2 (by omega)); (try have dQ3 : _ < wq.heap.size := Nat.lt_of_lt_of_le dQ3 (by omega)); (try have dQ4 : _ < wq.heap.size := Nat.lt_of_lt_of_le dQ4 (by omega)); (try have dQ5 : _ < wq.heap.size := Nat.lt_of_lt_of_le dQ5 (by omega)); (try (have hnQ := Nat.lt_of_succ_le hz; first | (have _x := dQ0; first | (have _x := dQ1; first | (have _x := dQ2; first | (have _x := dQ3; first | (have _x := dQ4; have dQ5 := hnQ) | have dQ4 := hnQ) | have dQ3 := hnQ) | have dQ2 := hnQ) | have dQ1 := hnQ) | have dQ0 := hnQ)); (try (have hmQ := Nat.lt_of_succ_lt (Nat.lt_of_succ_le hz); first | (have _x := dQ0; first | (have _x := dQ1; first | (have _x := dQ2; first | (have _x := dQ3; first | (have _x := dQ4; have dQ5 := hmQ) | have dQ4 := hmQ) | have dQ3 := hmQ) | have dQ2 := hmQ) | have dQ1 := hmQ) | have dQ0 := hmQ)))
        all_goals go_roundw
        case rel => exact ⟨k + 1, _, by omega, by go_num, rfl, by (repeat' first | (with_reducible exact Below.refl _ _) | (with_reducible refine Below.alloc ?_ ?_ _) | (with_reducible refine Below.drew ?_) | (with_reducible refine Below.setCell ?_ ?_ _) | (with_reducible refine below_via (by assumption) ?_ ?_) | go_size)⟩
        case measure => simp [intOf]; omega
      · have h4' : ¬ ((k : Int) < 4000) := by omega
        go_wp2_with fail
        all_goals go_ret
        all_goals refine ⟨wr.heap.size, rfl, hz, ?_, by (repeat' first | (with_reducible exact Below.refl _ _) | (with_reducible refine Below.alloc ?_ ?_ _) | (with_reducible refine Below.drew ?_) | (with_reducible refine Below.setCell ?_ ?_ _) | (with_reducible refine below_via (by assumption) ?_ ?_) | go_size)⟩
        all_goals exact ⟨by simp, by simp, ⟨0, by simp, by omega, by omega⟩, ⟨_, by simp; rfl⟩, fun j => by simp⟩
    · obtain rfl : k = l.length := by omega
      go_wp2_with fail
      all_goals go_ret
      all_goals refine ⟨wr.heap.size, rfl, hz, ?_, by (repeat' first | (with_reducible exact Below.refl _ _) | (with_reducible refine Below.alloc ?_ ?_ _) | (with_reducible refine Below.drew ?_) | (with_reducible refine Below.setCell ?_ ?_ _) | (with_reducible refine below_via (by assumption) ?_ ?_) | go_size)⟩
      all_goals exact ⟨by simp, by simp, ⟨0, by simp, by omega, by omega⟩, ⟨_, by simp; rfl⟩, fun j => by simp⟩
end Go.Proofs.Ytledmebhlmpjaaa
namespace Go.Proofs.Ytledmebhlmpjaaa
open Go.ChangeShapes Go.WideShapes Go.ChangeAt Go.RowKit Peg Go.Sort
theorem and255 (y : Int) : 0 ≤ bits .and .i64 y 255 ∧ bits .and .i64 y 255 ≤ 255 := by
  show 0 ≤ IntKind.i64.wrap (((BitVec.ofInt 64 y &&& BitVec.ofInt 64 255).toNat : Nat) : Int) ∧ IntKind.i64.wrap (((BitVec.ofInt 64 y &&& BitVec.ofInt 64 255).toNat : Nat) : Int) ≤ 255
  have h : ((BitVec.ofInt 64 y &&& BitVec.ofInt 64 255).toNat) ≤ 255 := by rw [BitVec.toNat_and]; exact Nat.le_trans Nat.and_le_right (by decide)
  rw [IntKind.wrap_i64]
  omega
/-- nothing but block c is written -/
theorem only_refl (w : World) (c : Nat) : w.grownBy w (some c) := ⟨rfl, rfl, rfl, Nat.le_refl _, fun _ _ _ => rfl⟩
theorem only_set {a w : World} {c o : Nat} {u : Value} (h : a.grownBy w (some c)) : a.grownBy (w.setCell ⟨c, o, none⟩ u) (some c) :=
  ⟨h.os, h.tape, h.output, by have := h.size; simpa using this, fun k hk hne => (Below.heap_setCell _ _ _ _ (fun e => hne (by rw [e]))).trans (h.block k hk hne)⟩
theorem only_via {a w w' : World} {c : Nat} (hb : Below w.heap.size w w') (h : a.grownBy w (some c)) : a.grownBy w' (some c) :=
  ⟨hb.os.trans h.os, hb.tape.trans h.tape, hb.output.trans h.output, Nat.le_trans h.size hb.size, fun k hk hne => (hb.block k (Nat.lt_of_lt_of_le hk h.size)).trans (h.block k hk hne)⟩
theorem only_trans {a w w' : World} {c : Nat} (h : a.grownBy w (some c)) (g : w.grownBy w' (some c)) : a.grownBy w' (some c) :=
  ⟨g.os.trans h.os, g.tape.trans h.tape, g.output.trans h.output, Nat.le_trans h.size g.size, fun k hk hne => (g.block k (Nat.lt_of_lt_of_le hk h.size) hne).trans (h.block k hk hne)⟩
theorem only_below {w w' : World} {c : Nat} (hc : c ≤ w.heap.size) (h : w.grownBy w' (some c)) : Below c w w' := (Below.refl c w).grown h hc (fun k hk => by cases hk; exact Nat.le_refl _)
theorem only_cell {w w' : World} {c b o : Nat} (h : w.grownBy w' (some c)) (hb : b < w.heap.size) (hne : b ≠ c) : w'.cell? ⟨b, o, none⟩ = w.cell? ⟨b, o, none⟩ := World.cell?_of_block (h.block b hb (fun e => hne (by cases e; rfl)))
theorem only_frozen {w w' : World} {c b o : Nat} (h : w.grownBy w' (some c)) (hb : b < w.heap.size) (hne : b ≠ c) : w'.frozen? ⟨b, o, none⟩ = w.frozen? ⟨b, o, none⟩ := World.frozen?_of_block (h.block b hb (fun e => hne (by cases e; rfl)))
set_option maxHeartbeats 1000000 in
set_option maxRecDepth 100000 in
theorem l01Byte_any (c : Nat) (v : Value) (l : List Int) (w0 w : World) (hv : Rd EBy w0 v l) (hok : ∀ y ∈ l, ByOk y) (h0 : w0.heap.size ≤ c) (hbel : Below w0.heap.size w0 w) (hcur : CurAt w c v l.length) :
    Calls Try.prog 90 #[.pointer (some ⟨c, 0, none⟩)] w fun e w' => (∃ x : Int, e = .returned (.int .i64 x) ∧ 0 ≤ x ∧ x ≤ 255) ∧ CurAt w' c v l.length ∧ w.grownBy w' (some c) := by
  obtain ⟨a, cap, rfl, hn, hget⟩ := hv.by hok
  obtain ⟨hcs, k0, ⟨i, k1, i0, i1⟩, ⟨h, k2⟩, kf⟩ := hcur
  obtain ⟨k, rfl⟩ : ∃ k : Nat, i = k := ⟨i.toNat, by omega⟩
  by_cases hlt : k < l.length
  · obtain ⟨ad, y, rfl, had, hc, y0, y1⟩ := hget k hlt
    have hc2 := (hbel.cell (p := ad.add k) (by rw [add_block]; exact had)).trans hc
    have had2 : (ad.add k).block ≠ c := by rw [add_block]; omega
    have had4 : (ad.add k).block < c := by rw [add_block]; omega
    have had3 : (ad.add k).block < w.heap.size := by rw [add_block]; omega
    clear hget hok hv hbel
    go_enter Try.func90, Try.ntmps90
    go_wp2_with ((with_reducible refine wp_region_qb ?_ ?_ (fun hq => ?_)); (focus kernel_rfl); (focus kernel_rfl); (repeat (go_big_quiet_step (fail))); refine wpQuiet_nil ?_; intro wq hb; obtain ⟨hc, hf, hz, hy⟩ := bcell hb; clear hq hy; (try simp only [World.size_alloc, World.size_setCell, World.size_drew] at hz); (try have gQ0 : w.heap.size < wq.heap.size := by omega); (try have gQ1 : w.heap.size + 1 < wq.heap.size := by omega); (try have gQ2 : w.heap.size + 1 + 1 < wq.heap.size := by omega); (try have gQ3 : w.heap.size + 1 + 1 + 1 < wq.heap.size := by omega); (try have gQ4 : w.heap.size + 1 + 1 + 1 + 1 < wq.heap.size := by omega); (try have gQ5 : w.heap.size + 1 + 1 + 1 + 1 + 1 < wq.heap.size := by omega); (try have dQ0 : _ < wq.heap.size := Nat.lt_of_lt_of_le dQ0 (by omega)); (try have dQ1 : _ < wq.heap.size := Nat.lt_of_lt_of_le dQ1 (by omega)); (try have dQ2 : _ < wq.heap.size := Nat.lt_of_lt_of_le dQ2 (by omega)); (try have dQ3 : _ < wq.heap.size := Nat.lt_of_lt_of_le dQ3 (by omega)); (try have dQ4 : _ < wq.heap.size := Nat.lt_of_lt_of_le dQ4 (by omega)); (try have dQ5 : _ < wq.heap.size := Nat.lt_of_lt_of_le dQ5 (by omega)); (try (have hnQ := Nat.lt_of_succ_le hz; first | (have _x := dQ0; first | (have _x := dQ1; first | (have _x := dQ2; first | (have _x := dQ3; first | (have _x := dQ4; have dQ5 := hnQ) | have dQ4 := hnQ) | have dQ3 := hnQ) | have dQ2 := hnQ) | have dQ1 := hnQ) | have dQ0 := hnQ)); (try (have hmQ := Nat.lt_of_succ_lt (Nat.lt_of_succ_le hz); first | (have _x := dQ0; first | (have _x := dQ1; first | (have _x := dQ2; first | (have _x := dQ3; first | (have _x := dQ4; have dQ5 := hmQ) | have dQ4 := hmQ) | have dQ3 := hmQ) | have dQ2 := hmQ) | have dQ1 := hmQ) | have dQ0 := hmQ)); have hcq : c < wq.heap.size := (by omega); have hcr : (ad.add k).block < wq.heap.size := (by omega); have hbc : Below c w wq := (by (repeat' first | (with_reducible exact Below.refl _ _) | (with_reducible refine Below.alloc ?_ ?_ _) | (with_reducible refine Below.drew ?_) | (with_reducible refine Below.setCell ?_ ?_ _) | (with_reducible refine below_via (by assumption) ?_ ?_) | go_size)); have hc9 := (hbc.cell (p := ad.add k) had4).trans hc2; have hc8 : ∀ (d : Nat) (os : Array Obj), (grow (redrawn wq d) os).cell? (ad.add k) = some (.int .u8 y) := (fun d os => (cell?_grow (redrawn wq d) os (ad.add k) hcr).trans hc9))
    all_goals go_ret
    all_goals refine ⟨⟨_, rfl, and255 _⟩, ?_, by (repeat' first | (with_reducible exact only_refl _ _) | (with_reducible refine only_set ?_) | (with_reducible refine only_via (by assumption) ?_))⟩
    all_goals exact ⟨by first | omega | (simp; omega), by simp [go_sem, *], ⟨(k : Int) + 1, by simp [go_sem, *], by omega, by omega⟩, ⟨_, by simp [go_sem, *]; rfl⟩, fun j => by simp [go_sem, *]⟩
  · have hge : ¬ ((k : Int) < (l.length : Int)) := by omega
    clear hget hok hv hbel
    go_enter Try.func90, Try.ntmps90
    go_wp2_with ((with_reducible refine wp_region_qb ?_ ?_ (fun hq => ?_)); (focus kernel_rfl); (focus kernel_rfl); (repeat (go_big_quiet_step (fail))); refine wpQuiet_nil ?_; intro wq hb; obtain ⟨hc, hf, hz, hy⟩ := bcell hb; clear hq hy; (try simp only [World.size_alloc, World.size_setCell, World.size_drew] at hz); (try have gQ0 : w.heap.size < wq.heap.size := by omega); (try have gQ1 : w.heap.size + 1 < wq.heap.size := by omega); (try have gQ2 : w.heap.size + 1 + 1 < wq.heap.size := by omega); (try have gQ3 : w.heap.size + 1 + 1 + 1 < wq.heap.size := by omega); (try have gQ4 : w.heap.size + 1 + 1 + 1 + 1 < wq.heap.size := by omega); (try have gQ5 : w.heap.size + 1 + 1 + 1 + 1 + 1 < wq.heap.size := by omega); (try have dQ0 : _ < wq.heap.size := Nat.lt_of_lt_of_le dQ0 (by omega)); (try have dQ1 : _ < wq.heap.size := Nat.lt_of_lt_of_le dQ1 (by omega)); (try have dQ2 : _ < wq.heap.size := Nat.lt_of_lt_of_le dQ2 (by omega)); (try have dQ3 : _ < wq.heap.size := Nat.lt_of_lt_of_le dQ3 (by omega)); (try have dQ4 : _ < wq.heap.size := Nat.lt_of_lt_of_le dQ4 (by omega)); (try have dQ5 : _ < wq.heap.size := Nat.lt_of_lt_of_le dQ5 (by omega)); (try (have hnQ := Nat.lt_of_succ_le hz; first | (have _x := dQ0; first | (have _x := dQ1; first | (have _x := dQ2; first | (have _x := dQ3; first | (have _x := dQ4; have dQ5 := hnQ) | have dQ4 := hnQ) | have dQ3 := hnQ) | have dQ2 := hnQ) | have dQ1 := hnQ) | have dQ0 := hnQ)); (try (have hmQ := Nat.lt_of_succ_lt (Nat.lt_of_succ_le hz); first | (have _x := dQ0; first | (have _x := dQ1; first | (have _x := dQ2; first | (have _x := dQ3; first | (have _x := dQ4; have dQ5 := hmQ) | have dQ4 := hmQ) | have dQ3 := hmQ) | have dQ2 := hmQ) | have dQ1 := hmQ) | have dQ0 := hmQ)); have hcq : c < wq.heap.size := by omega)
    all_goals go_ret
    all_goals refine ⟨⟨_, rfl, and255 _⟩, ?_, by (repeat' first | (with_reducible exact only_refl _ _) | (with_reducible refine only_set ?_) | (with_reducible refine only_via (by assumption) ?_))⟩
    all_goals exact ⟨by first | omega | (simp; omega), by simp [go_sem, *], ⟨(k : Int), by simp [go_sem, *], by omega, by omega⟩, ⟨_, by simp [go_sem, *]; rfl⟩, fun j => by simp [go_sem, *]⟩
set_option maxHeartbeats 1000000 in
set_option maxRecDepth 100000 in
theorem l01Below_any (c : Nat) (v : Value) (l : List Int) (n : Int) (n0 : 0 < n) (n1 : n ≤ 256) (w0 w : World) (hv : Rd EBy w0 v l) (hok : ∀ y ∈ l, ByOk y) (h0 : w0.heap.size ≤ c) (hbel : Below w0.heap.size w0 w) (hcur : CurAt w c v l.length) :
    Calls Try.prog 67 #[.pointer (some ⟨c, 0, none⟩), .int .i64 n] w fun e w' => (∃ x : Int, e = .returned (.int .i64 x) ∧ 0 ≤ x ∧ x < n) ∧ CurAt w' c v l.length ∧ w.grownBy w' (some c) := by
  have HB := Lib.hid (l01Byte_any c v l w0 w hv hok h0 hbel hcur)
  clear hv hok hbel hcur
  go_enter Try.func67, Try.ntmps67
  go_wp2_with (go_at_call 90; refine HB.out.mono ?_; rintro e w' ⟨⟨x, rfl, x0, x1⟩, hcu, hb⟩; have hm0 := Int.emod_nonneg x (show n ≠ 0 by omega); have hm1 := Int.emod_lt_of_pos x n0)
  all_goals go_ret
  all_goals exact ⟨⟨_, rfl, by omega, by omega⟩, by assumption, by assumption⟩
end Go.Proofs.Ytledmebhlmpjaaa
namespace Go.Proofs.Ytledmebhlmpjaaa
open Go.ChangeShapes Go.WideShapes Go.ChangeAt Go.RowKit Peg Go.Sort
theorem only_new {a w : World} {c b o : Nat} {u : Value} (h : a.grownBy w (some c)) (hb : a.heap.size ≤ b) : a.grownBy (w.setCell ⟨b, o, none⟩ u) (some c) :=
  ⟨h.os, h.tape, h.output, by have := h.size; simpa using this, fun k hk hne => (Below.heap_setCell _ _ _ _ (fun e => by have e2 : k = b := e; omega)).trans (h.block k hk hne)⟩
theorem only_alloc {a w : World} {c : Nat} (h : a.grownBy w (some c)) (ob : Obj) : a.grownBy (w.alloc ob) (some c) := only_via ((Below.refl _ _).alloc (Nat.le_refl _) _) h
theorem only_old {w w' : World} {c : Nat} (hb : Below w.heap.size w w') : w.grownBy w' (some c) := only_via hb (only_refl w c)
theorem Own.only {α : Type} {E : Elt α} {w w' : World} {B c : Nat} {v : Value} {l : List α} (h : Own E w B v l) (hg : w.grownBy w' (some c)) (hc : c < B) : Own E w' B v l := by
  rcases h with h | h
  · exact .inl h
  · by_cases h0 : v.ownBlock = some c
    · have := (World.ownsRow.lt h c h0).1; omega
    · exact Own.grown (.inr h) hg (.inl h0)
theorem CurAt.keepB {w w' : World} {c n B : Nat} {v : Value} (h : CurAt w c v n) (hc : c < B) (hz : w.heap.size ≤ w'.heap.size) (hb : Below B w w') : CurAt w' c v n := by
  obtain ⟨h1, h2, ⟨i, h3, h4, h5⟩, ⟨x, h6⟩, h7⟩ := h
  exact ⟨Nat.lt_of_lt_of_le h1 hz, (hb.cell hc).trans h2, ⟨i, (hb.cell hc).trans h3, h4, h5⟩, ⟨x, (hb.cell hc).trans h6⟩, fun j => (hb.frozen hc).trans (h7 j)⟩
theorem only_viaB {a w w' : World} {c B : Nat} (hb : Below B w w') (hB : a.heap.size ≤ B) (h : a.grownBy w (some c)) : a.grownBy w' (some c) :=
  ⟨hb.os.trans h.os, hb.tape.trans h.tape, hb.output.trans h.output, Nat.le_trans h.size hb.size, fun k hk hne => (hb.block k (Nat.lt_of_lt_of_le hk hB)).trans (h.block k hk hne)⟩
set_option maxRecDepth 100000 in
theorem l01Once_any (c : Nat) (v : Value) (l : List Int) (n : Int) (n0 : 0 < n) (n1 : n ≤ 256) (w0 w : World) (hv : Rd EBy w0 v l) (hok : ∀ y ∈ l, ByOk y) (h0 : w0.heap.size ≤ c) (hbel : Below w0.heap.size w0 w) (hcur : CurAt w c v l.length) :
    Calls Try.prog 66 #[.pointer (some ⟨c, 0, none⟩), .int .i64 n] w fun e w' => (∃ x : Bool, e = .returned (.bool x)) ∧ CurAt w' c v l.length ∧ w.grownBy w' (some c) := by
  have HB := Lib.hid (l01Below_any c v l n n0 n1 w0 w hv hok h0 hbel hcur)
  clear hv hok hbel hcur
  go_enter Try.func66, Try.ntmps66
  go_wp2_with (go_at_call 67; refine HB.out.mono ?_; rintro e w' ⟨⟨x, rfl, x0, x1⟩, hcu, hb⟩)
  all_goals go_ret
  all_goals exact ⟨⟨_, rfl⟩, by assumption, by assumption⟩
end Go.Proofs.Ytledmebhlmpjaaa
namespace Go.Proofs.Ytledmebhlmpjaaa
open Go.ChangeShapes Go.WideShapes Go.ChangeAt Go.RowKit Peg Go.Sort
theorem Own.lit {α : Type} {E : Elt α} (L : List α) (w : World) (base : Nat) (hb : base ≤ w.heap.size) (hl : L.length ≤ 1000) : Own E (w.alloc (.cells (L.flatMap E.enc).toArray E.e)) base (.slice (some ⟨w.heap.size, 0, none⟩) L.length L.length) L := by
  right
  refine ⟨by rw [flat_length], .inr ⟨w.heap.size, L.length, (L.flatMap E.enc).toArray, by simp, hb, heap_alloc_new w _, by simp, by unfold maxLen; omega, by rw [List.size_toArray]; exact flat_length E L, ?_⟩⟩
  rw [List.take_of_length_le (by rw [List.toList_toArray]; exact Nat.le_of_eq (flat_length E L))]
theorem box_set (w : World) (g i : Nat) (u : Value) (xs : Array Value) (h : ∀ j, w.cell? ⟨g, j, none⟩ = xs[j]?) (hi : i < xs.size) (j : Nat) : (w.setCell ⟨g, i, none⟩ u).cell? ⟨g, j, none⟩ = (xs.setIfInBounds i u)[j]? := by
  by_cases e : i = j
  · subst e
    rw [World.cell?_setCell_same' _ _ _ (by rw [h]; simp [hi])]
    simp [hi]
  · rw [World.cell?_setCell_other _ _ _ _ (by simp [e]), h]
    simp [Array.getElem?_setIfInBounds, e]
theorem box_far (w : World) (g g2 i j : Nat) (u : Value) (hne : g2 ≠ g) : (w.setCell ⟨g, i, none⟩ u).cell? ⟨g2, j, none⟩ = w.cell? ⟨g2, j, none⟩ := World.cell?_setCell_other _ _ _ _ (by intro e; cases e; exact hne rfl)
/-- a box of the call's own -/
def BoxAt (W : World) (b : Nat) (xs : Array Value) : Prop := b < W.heap.size ∧ (∀ j, W.cell? ⟨b, j, none⟩ = xs[j]?) ∧ ∀ j, W.frozen? ⟨b, j, none⟩ = false
theorem BoxAt.new (W : World) (xs : Array Value) (t : TypeId) : BoxAt (W.alloc (.cells xs t)) W.heap.size xs := ⟨by simp, fun j => by simp, fun j => by simp⟩
theorem BoxAt.only {W W' : World} {b c : Nat} {xs : Array Value} (h : BoxAt W b xs) (hg : W.grownBy W' (some c)) (hne : b ≠ c) : BoxAt W' b xs :=
  ⟨Nat.lt_of_lt_of_le h.1 hg.size, fun j => (only_cell hg h.1 hne).trans (h.2.1 j), fun j => (only_frozen hg h.1 hne).trans (h.2.2 j)⟩
theorem BoxAt.keep {W W' : World} {b : Nat} {xs : Array Value} (h : BoxAt W b xs) (hb : Below W.heap.size W W') : BoxAt W' b xs :=
  ⟨Nat.lt_of_lt_of_le h.1 hb.size, fun j => (hb.cell h.1).trans (h.2.1 j), fun j => (hb.frozen h.1).trans (h.2.2 j)⟩
theorem BoxAt.alloc {W : World} {b : Nat} {xs : Array Value} (h : BoxAt W b xs) (o : Obj) : BoxAt (W.alloc o) b xs := h.keep ((Below.refl _ _).alloc (Nat.le_refl _) _)
theorem BoxAt.put {W : World} {b : Nat} {xs : Array Value} (h : BoxAt W b xs) (i : Nat) (u : Value) (hi : i < xs.size) : BoxAt (W.setCell ⟨b, i, none⟩ u) b (xs.setIfInBounds i u) :=
  ⟨by simpa using h.1, fun j => box_set W b i u xs h.2.1 hi j, fun j => by simp [go_sem, h.2.2]⟩
theorem BoxAt.far {W : World} {b : Nat} {xs : Array Value} (h : BoxAt W b xs) (g i : Nat) (u : Value) (hne : b ≠ g) : BoxAt (W.setCell ⟨g, i, none⟩ u) b xs :=
  ⟨by simpa using h.1, fun j => (box_far W g b i j u hne).trans (h.2.1 j), fun j => by simp [go_sem, h.2.2]⟩
/-- the state of a draw: the cursor stands, nothing else of the start's world is written -/
def DS (w0 : World) (c : Nat) (v : Value) (n : Nat) (w W : World) : Prop := CurAt W c v n ∧ w.grownBy W (some c) ∧ w0.heap.size ≤ c ∧ Below w0.heap.size w0 w ∧ c < w.heap.size
theorem DS.start {w0 w : World} {c n : Nat} {v : Value} (h0 : w0.heap.size ≤ c) (hbel : Below w0.heap.size w0 w) (hcur : CurAt w c v n) : DS w0 c v n w w := ⟨hcur, only_refl w c, h0, hbel, hcur.1⟩
theorem DS.call {w0 w W W' : World} {c n : Nat} {v : Value} (h : DS w0 c v n w W) (h1 : CurAt W' c v n) (h2 : W.grownBy W' (some c)) : DS w0 c v n w W' := ⟨h1, only_trans h.2.1 h2, h.2.2.1, h.2.2.2.1, h.2.2.2.2⟩
theorem DS.keep {w0 w W W' : World} {c n : Nat} {v : Value} (h : DS w0 c v n w W) (hb : Below W.heap.size W W') : DS w0 c v n w W' := ⟨h.1.keep hb, only_via hb h.2.1, h.2.2.1, h.2.2.2.1, h.2.2.2.2⟩
theorem DS.alloc {w0 w W : World} {c n : Nat} {v : Value} (h : DS w0 c v n w W) (o : Obj) : DS w0 c v n w (W.alloc o) := h.keep ((Below.refl _ _).alloc (Nat.le_refl _) _)
theorem DS.set {w0 w W : World} {c n : Nat} {v : Value} (h : DS w0 c v n w W) {b : Nat} (hb : w.heap.size ≤ b) (i : Nat) (u : Value) : DS w0 c v n w (W.setCell ⟨b, i, none⟩ u) :=
  ⟨h.1.keepB (B := w.heap.size) h.2.2.2.2 (by simp) ((Below.refl _ _).setCell (by simpa using hb) _), only_new h.2.1 hb, h.2.2.1, h.2.2.2.1, h.2.2.2.2⟩
theorem DS.below {w0 w W : World} {c n : Nat} {v : Value} (h : DS w0 c v n w W) : Below w0.heap.size w0 W :=
  h.2.2.2.1.trans ((only_below (Nat.le_of_lt h.2.2.2.2) h.2.1).mono h.2.2.1)
theorem DS.size {w0 w W : World} {c n : Nat} {v : Value} (h : DS w0 c v n w W) : w.heap.size ≤ W.heap.size := h.2.1.size
end Go.Proofs.Ytledmebhlmpjaaa
