/- Cur: the drawn code's bytes, and the reference's cursor over them: contracts of 'at', 'big', l01New, l01Byte, l01Below (to 256). Conditions: the slice's form; the cursor's form. -/
import Derived.Test.YtfmplmlilmalpaaGreatMem3
import Derived.Test.YtfmplmlilmalpaaGreatOpenS
set_option linter.unusedVariables false
set_option linter.unusedSimpArgs false
namespace Go.Proofs.YtfmplmlilmalpaaGreat
open Go.ChangeShapes Go.WideShapes Go.ChangeAt Go.RowKit Peg Go.Sort
theorem info_u8c : (Tryz.prog.info? 5).map (fun i => (i.zero, i.size, i.bytes)) = some (some (.int .u8 0), 1, 1) := by kernel_rfl
def EBy : Elt Int where
  e := 5
  size := 1
  bytes := 1
  enc x := [.int .u8 x]
  len _ := rfl
  one _ u hu := by simp at hu; subst hu; rfl
  pos := by decide
  small := by decide
  info := ⟨_, info_u8c, rfl⟩
def ByOk (n : Int) : Prop := 0 ≤ n ∧ n ≤ 255
theorem Rd.by {w : World} {v : Value} {l : List Int} (h : Rd EBy w v l) (hok : ∀ y ∈ l, ByOk y) : ∃ a cap, v = .slice a l.length cap ∧ l.length ≤ 9223372036854775807 ∧
    ∀ i, i < l.length → ∃ (ad : Addr) (x : Int), a = some ad ∧ ad.block < w.heap.size ∧ w.cell? (ad.add i) = some (.int .u8 x) ∧ 0 ≤ x ∧ x ≤ 255 := by
  obtain ⟨a, cap, hv, h1, h3⟩ := h
  refine ⟨a, cap, hv, h1, fun i hi => ?_⟩
  obtain ⟨ad, hb, h5, h6⟩ := h3 i hi
  have := hok l[i] (List.getElem_mem hi)
  exact ⟨ad, l[i], hb, h5, by simpa [EBy] using h6 0 (by decide), this.1, this.2⟩
theorem cells_u8 : Tryz.prog.cellsOf 5 = 1 := by kernel_rfl
section
open Go.ChangeAt
variable {H : Type} {enc : TypeId × Value → H} {W : World} {sp : Nat → Bool}
set_option maxRecDepth 100000 in
theorem arg_ByteS {v : Value} {d : DataW H} {p : List MemPlace} {b0 : Nat} (hv : Value.okWide Tryz.prog W .any b0 22 v) (h : DataW.Trod enc Tryz.prog W 0 sp true 22 v d p) : ∃ l, Rd EBy W v l ∧ ∀ y ∈ l, ByOk y :=
  arg_rd EBy ByOk 0 Tryz.underlying22 cells_u8 (fun fuel cs x hx => by
    obtain ⟨a0, e0, _, w0⟩ := DataW.trod_int Tryz.underlying5 hx
    exact ⟨a0, e0, by simpa [ByOk, Lit.wf, IntKind.min, IntKind.max, IntKind.signed, IntKind.bits] using w0⟩) hv h
end
theorem big_any (v : Value) (l : List Int) (w : World) (hv : Rd EBy w v l) :
    Calls Tryz.prog 4 #[v] w fun e w' => e = .returned (.bool (decide ((1048576 : Int) < l.length))) ∧ w = w' := by
  obtain ⟨a, cap, rfl, _, _⟩ := hv
  go_enter Tryz.func4, Tryz.ntmps4
  go_wp2_with fail
  go_ret
  exact ⟨rfl, rfl⟩
/-- the cursor's record lies in block c, over the slice v of n bytes -/
def CurAt (w : World) (c : Nat) (v : Value) (n : Nat) : Prop :=
  c < w.heap.size ∧ w.cell? ⟨c, 0, none⟩ = some v ∧ (∃ i : Int, w.cell? ⟨c, 1, none⟩ = some (.int .i64 i) ∧ 0 ≤ i ∧ i ≤ n) ∧ (∃ h : Int, w.cell? ⟨c, 2, none⟩ = some (.int .i64 h)) ∧ ∀ j, w.frozen? ⟨c, j, none⟩ = false
theorem CurAt.keep {w w' : World} {c n : Nat} {v : Value} (h : CurAt w c v n) (hb : Below w.heap.size w w') : CurAt w' c v n := by
  obtain ⟨h1, h2, ⟨i, h3, h4, h5⟩, ⟨x, h6⟩, h7⟩ := h
  exact ⟨Nat.lt_of_lt_of_le h1 hb.size, (hb.cell h1).trans h2, ⟨i, (hb.cell h1).trans h3, h4, h5⟩, ⟨x, (hb.cell h1).trans h6⟩, fun j => (hb.frozen h1).trans (h7 j)⟩
set_option maxRecDepth 100000 in
theorem l01New_any (v : Value) (l : List Int) (w : World) (hv : Rd EBy w v l) (hok : ∀ y ∈ l, ByOk y) (hl : l.length ≤ 1048576) :
    Calls Tryz.prog 16 #[v] w fun e w' => ∃ c, e = .returned (.pointer (some ⟨c, 0, none⟩)) ∧ w.heap.size ≤ c ∧ CurAt w' c v l.length ∧ Below w.heap.size w w' := by
  obtain ⟨a, cap, rfl, hn, hget⟩ := hv.by hok
  have HG := Lib.hid hget
  clear hget hok hv
  go_enter Tryz.func16, Tryz.ntmps16
  go_wp2_with fail
  go_loopw [3, 4] (fun h i wr => ∃ (k : Nat) (x : Int), k ≤ l.length ∧ i = .int .i64 k ∧ h = .int .i64 x ∧ Below w.heap.size w wr) (fun _ i _ => l.length - (intOf i).toNat)
  case atStart => exact ⟨0, _, by omega, rfl, rfl, by (repeat' first | (with_reducible exact Below.refl _ _) | (with_reducible refine Below.alloc ?_ ?_ _) | (with_reducible refine Below.drew ?_) | (with_reducible refine Below.setCell ?_ ?_ _) | (with_reducible refine below_via (by assumption) ?_ ?_) | go_size)⟩
  case round =>
    obtain ⟨k, x, hk, rfl, rfl, hbw⟩ := hrel
    have hz := hbw.size
    by_cases hlt : k < l.length
    · by_cases h4 : k < 4000
      · obtain ⟨ad, y, rfl, had, hc, y0, y1⟩ := HG.out k hlt
        have hc2 := (hbw.cell (p := ad.add k) (by rw [add_block]; exact had)).trans hc
        have had2 : (ad.add k).block < wr.heap.size := by rw [add_block]; omega
        go_wp2_with ((with_reducible refine wp_region_qb ?_ ?_ (fun hq => ?_)); (focus kernel_rfl); (focus kernel_rfl); (repeat (go_big_quiet_step (fail))); refine wpQuiet_nil ?_; intro wq hb; obtain ⟨hc, hf, hz, hy⟩ := bcell hb; clear hq hy; (try simp only [World.size_alloc, World.size_setCell, World.size_drew] at hz); (try have gQ0 : w.heap.size < wq.heap.size := by omega); (try have gQ1 : w.heap.size + 1 < wq.heap.size := by omega); (try have gQ2 : w.heap.size + 1 + 1 < wq.heap.size := by omega); (try have gQ3 : w.heap.size + 1 + 1 + 1 < wq.heap.size := by omega); (try have gQ4 : w.heap.size + 1 + 1 + 1 + 1 < wq.heap.size := by omega); (try have gQ5 : w.heap.size + 1 + 1 + 1 + 1 + 1 < wq.heap.size := by omega); (try have dQ0 : _ < wq.heap.size := Nat.lt_of_lt_of_le dQ0 (by omega)); (try have dQ1 : _ < wq.heap.size := Nat.lt_of_lt_of_le dQ1 (by omega)); (try have dQ2 : _ < wq.heap.size := Nat.lt_of_lt_of_le dQ2 (by omega)); (try have dQ3 : _ < wq.heap.size := Nat.lt_of_lt_of_le dQ3 (by omega)); (try have dQ4 : _ < wq.heap.size := Nat.lt_of_lt_of_le dQ4 (by omega)); (try have dQ5 : _ < wq.heap.size := Nat.lt_of_lt_of_le dQ5 (by omega)); (try (have hnQ := Nat.lt_of_succ_le hz; first | (have _x := dQ0; first | (have _x := dQ1; first | (have _x := dQ2; first | (have _x := dQ3; first | (have _x := dQ4; have dQ5 := hnQ) | have dQ4 := hnQ) | have dQ3 := hnQ) | have dQ2 := hnQ) | have dQ1 := hnQ) | have dQ0 := hnQ)); (try (have hmQ := Nat.lt_of_succ_lt (Nat.lt_of_succ_le hz); first | (have _x := dQ0; first | (have _x := dQ1; first | (have _x := dQ2; first | (have _x := dQ3; first | (have _x := dQ4; have dQ5 := hmQ) | have dQ4 := hmQ) | have dQ3 := hmQ) | have dQ2 := hmQ) | have dQ1 := hmQ) | have dQ0 := hmQ)))
        all_goals go_roundw
        case rel => exact ⟨k + 1, _, by omega, by go_num, rfl, by (repeat' first | (with_reducible exact Below.refl _ _) | (with_reducible refine Below.alloc ?_ ?_ _) | (with_reducible refine Below.drew ?_) | (with_reducible refine Below.setCell ?_ ?_ _) | (with_reducible refine below_via (by assumption) ?_ ?_) | go_size)⟩
        case measure => simp [intOf]; omega
      · have h4' : ¬ ((k : Int) < 4000) := by omega
        go_wp2_with fail
        all_goals go_ret
        all_goals refine ⟨wr.heap.size, rfl, hz, ?_, by (repeat' first | (with_reducible exact Below.refl _ _) | (with_reducible refine Below.alloc ?_ ?_ _) | (with_reducible refine Below.drew ?_) | (with_reducible refine Below.setCell ?_ ?_ _) | (with_reducible refine below_via (by assumption) ?_ ?_) | go_size)⟩
        all_goals exact ⟨by simp, by simp, ⟨0, by simp, by omega, by omega⟩, ⟨_, by simp; rfl⟩, fun j => by simp⟩
    · obtain rfl : k = l.length := by omega
      go_wp2_with fail
      all_goals go_ret
      all_goals refine ⟨wr.heap.size, rfl, hz, ?_, by (repeat' first | (with_reducible exact Below.refl _ _) | (with_reducible refine Below.alloc ?_ ?_ _) | (with_reducible refine Below.drew ?_) | (with_reducible refine Below.setCell ?_ ?_ _) | (with_reducible refine below_via (by assumption) ?_ ?_) | go_size)⟩
      all_goals exact ⟨by simp, by simp, ⟨0, by simp, by omega, by omega⟩, ⟨_, by simp; rfl⟩, fun j => by simp⟩
end Go.Proofs.YtfmplmlilmalpaaGreat
