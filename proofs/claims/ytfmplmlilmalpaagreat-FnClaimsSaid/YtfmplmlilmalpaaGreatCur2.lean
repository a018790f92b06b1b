/- Cur2: contracts of l01Byte and of l01Below to 256. Conditions: the cursor's form. -/
import Derived.Test.YtfmplmlilmalpaaGreatCur
import Derived.Laws.BitsLemmas
set_option linter.unusedVariables false
set_option linter.unusedSimpArgs false
namespace Go.Proofs.YtfmplmlilmalpaaGreat
open Go.ChangeShapes Go.WideShapes Go.ChangeAt Go.RowKit Peg Go.Sort
theorem and255 (y : Int) : 0 ≤ bits .and .i64 y 255 ∧ bits .and .i64 y 255 ≤ 255 := by
  show 0 ≤ IntKind.i64.wrap (((BitVec.ofInt 64 y &&& BitVec.ofInt 64 255).toNat : Nat) : Int) ∧ IntKind.i64.wrap (((BitVec.ofInt 64 y &&& BitVec.ofInt 64 255).toNat : Nat) : Int) ≤ 255
  have h : ((BitVec.ofInt 64 y &&& BitVec.ofInt 64 255).toNat) ≤ 255 := by rw [BitVec.toNat_and]; exact Nat.le_trans Nat.and_le_right (by decide)
  rw [IntKind.wrap_i64]
  omega
/-- nothing but block c is written -/
theorem only_refl (w : World) (c : Nat) : w.grownBy w (some c) := ⟨rfl, rfl, rfl, Nat.le_refl _, fun _ _ _ => rfl⟩
theorem only_set {a w : World} {c o : Nat} {u : Value} (h : a.grownBy w (some c)) : a.grownBy (w.setCell ⟨c, o, none⟩ u) (some c) :=
  ⟨h.os, h.tape, h.output, by have := h.size; simpa using this, fun k hk hne => (Below.heap_setCell _ _ _ _ (fun e => hne (by rw [e]))).trans (h.block k hk hne)⟩
theorem only_via {a w w' : World} {c : Nat} (hb : Below w.heap.size w w') (h : a.grownBy w (some c)) : a.grownBy w' (some c) :=
  ⟨hb.os.trans h.os, hb.tape.trans h.tape, hb.output.trans h.output, Nat.le_trans h.size hb.size, fun k hk hne => (hb.block k (Nat.lt_of_lt_of_le hk h.size)).trans (h.block k hk hne)⟩
theorem only_trans {a w w' : World} {c : Nat} (h : a.grownBy w (some c)) (g : w.grownBy w' (some c)) : a.grownBy w' (some c) :=
  ⟨g.os.trans h.os, g.tape.trans h.tape, g.output.trans h.output, Nat.le_trans h.size g.size, fun k hk hne => (g.block k (Nat.lt_of_lt_of_le hk h.size) hne).trans (h.block k hk hne)⟩
theorem only_below {w w' : World} {c : Nat} (hc : c ≤ w.heap.size) (h : w.grownBy w' (some c)) : Below c w w' := (Below.refl c w).grown h hc (fun k hk => by cases hk; exact Nat.le_refl _)
theorem only_cell {w w' : World} {c b o : Nat} (h : w.grownBy w' (some c)) (hb : b < w.heap.size) (hne : b ≠ c) : w'.cell? ⟨b, o, none⟩ = w.cell? ⟨b, o, none⟩ := World.cell?_of_block (h.block b hb (fun e => hne (by cases e; rfl)))
theorem only_frozen {w w' : World} {c b o : Nat} (h : w.grownBy w' (some c)) (hb : b < w.heap.size) (hne : b ≠ c) : w'.frozen? ⟨b, o, none⟩ = w.frozen? ⟨b, o, none⟩ := World.frozen?_of_block (h.block b hb (fun e => hne (by cases e; rfl)))
set_option maxHeartbeats 1000000 in
set_option maxRecDepth 100000 in
theorem l01Byte_any (c : Nat) (v : Value) (l : List Int) (w0 w : World) (hv : Rd EBy w0 v l) (hok : ∀ y ∈ l, ByOk y) (h0 : w0.heap.size ≤ c) (hbel : Below w0.heap.size w0 w) (hcur : CurAt w c v l.length) :
    Calls Tryz.prog 85 #[.pointer (some ⟨c, 0, none⟩)] w fun e w' => (∃ x : Int, e = .returned (.int .i64 x) ∧ 0 ≤ x ∧ x ≤ 255) ∧ CurAt w' c v l.length ∧ w.grownBy w' (some c) := by
  obtain ⟨a, cap, rfl, hn, hget⟩ := hv.by hok
  obtain ⟨hcs, k0, ⟨i, k1, i0, i1⟩, ⟨h, k2⟩, kf⟩ := hcur
  obtain ⟨k, rfl⟩ : ∃ k : Nat, i = k := ⟨i.toNat, by omega⟩
  by_cases hlt : k < l.length
  · obtain ⟨ad, y, rfl, had, hc, y0, y1⟩ := hget k hlt
    have hc2 := (hbel.cell (p := ad.add k) (by rw [add_block]; exact had)).trans hc
    have had2 : (ad.add k).block ≠ c := by rw [add_block]; omega
    have had4 : (ad.add k).block < c := by rw [add_block]; omega
    have had3 : (ad.add k).block < w.heap.size := by rw [add_block]; omega
    clear hget hok hv hbel
    go_enter Tryz.func85, Tryz.ntmps85
    go_wp2_with ((with_reducible refine wp_region_qb ?_ ?_ (fun hq => ?_)); (focus kernel_rfl); (focus kernel_rfl); (repeat (go_big_quiet_step (fail))); refine wpQuiet_nil ?_; intro wq hb; obtain ⟨hc, hf, hz, hy⟩ := bcell hb; clear hq hy; (try simp only [World.size_alloc, World.size_setCell, World.size_drew] at hz); (try have gQ0 : w.heap.size < wq.heap.size := by omega); (try have gQ1 : w.heap.size + 1 < wq.heap.size := by omega); (try have gQ2 : w.heap.size + 1 + 1 < wq.heap.size := by omega); (try have gQ3 : w.heap.size + 1 + 1 + 1 < wq.heap.size := by omega); (try have gQ4 : w.heap.size + 1 + 1 + 1 + 1 < wq.heap.size := by omega); (try have gQ5 : w.heap.size + 1 + 1 + 1 + 1 + 1 < wq.heap.size := by omega); (try have dQ0 : _ < wq.heap.size := Nat.lt_of_lt_of_le dQ0 (by omega)); (try have dQ1 : _ < wq.heap.size := Nat.lt_of_lt_of_le dQ1 (by omega)); (try have dQ2 : _ < wq.heap.size := Nat.lt_of_lt_of_le dQ2 (by omega)); (try have dQ3 : _ < wq.heap.size := Nat.lt_of_lt_of_le dQ3 (by omega)); (try have dQ4 : _ < wq.heap.size := Nat.lt_of_lt_of_le dQ4 (by omega)); (try have dQ5 : _ < wq.heap.size := Nat.lt_of_lt_of_le dQ5 (by omega)); (try (have hnQ := Nat.lt_of_succ_le hz; first | (have _x := dQ0; first | (have _x := dQ1; first | (have _x := dQ2; first | (have _x := dQ3; first | (have _x := dQ4; have dQ5 := hnQ) | have dQ4 := hnQ) | have dQ3 := hnQ) | have dQ2 := hnQ) | have dQ1 := hnQ) | have dQ0 := hnQ)); (try (have hmQ := Nat.lt_of_succ_lt (Nat.lt_of_succ_le hz); first | (have _x := dQ0; first | (have _x := dQ1; first | (have _x := dQ2; first | (have _x := dQ3; first | (have _x := dQ4; have dQ5 := hmQ) | have dQ4 := hmQ) | have dQ3 := hmQ) | have dQ2 := hmQ) | have dQ1 := hmQ) | have dQ0 := hmQ)); have hcq : c < wq.heap.size := (by omega); have hcr : (ad.add k).block < wq.heap.size := (by omega); have hbc : Below c w wq := (by (repeat' first | (with_reducible exact Below.refl _ _) | (with_reducible refine Below.alloc ?_ ?_ _) | (with_reducible refine Below.drew ?_) | (with_reducible refine Below.setCell ?_ ?_ _) | (with_reducible refine below_via (by assumption) ?_ ?_) | go_size)); have hc9 := (hbc.cell (p := ad.add k) had4).trans hc2; have hc8 : ∀ (d : Nat) (os : Array Obj), (grow (redrawn wq d) os).cell? (ad.add k) = some (.int .u8 y) := (fun d os => (cell?_grow (redrawn wq d) os (ad.add k) hcr).trans hc9))
    all_goals go_ret
    all_goals refine ⟨⟨_, rfl, and255 _⟩, ?_, by (repeat' first | (with_reducible exact only_refl _ _) | (with_reducible refine only_set ?_) | (with_reducible refine only_via (by assumption) ?_))⟩
    all_goals exact ⟨by first | omega | (simp; omega), by simp [go_sem, *], ⟨(k : Int) + 1, by simp [go_sem, *], by omega, by omega⟩, ⟨_, by simp [go_sem, *]; rfl⟩, fun j => by simp [go_sem, *]⟩
  · have hge : ¬ ((k : Int) < (l.length : Int)) := by omega
    clear hget hok hv hbel
    go_enter Tryz.func85, Tryz.ntmps85
    go_wp2_with ((with_reducible refine wp_region_qb ?_ ?_ (fun hq => ?_)); (focus kernel_rfl); (focus kernel_rfl); (repeat (go_big_quiet_step (fail))); refine wpQuiet_nil ?_; intro wq hb; obtain ⟨hc, hf, hz, hy⟩ := bcell hb; clear hq hy; (try simp only [World.size_alloc, World.size_setCell, World.size_drew] at hz); (try have gQ0 : w.heap.size < wq.heap.size := by omega); (try have gQ1 : w.heap.size + 1 < wq.heap.size := by omega); (try have gQ2 : w.heap.size + 1 + 1 < wq.heap.size := by omega); (try have gQ3 : w.heap.size + 1 + 1 + 1 < wq.heap.size := by omega); (try have gQ4 : w.heap.size + 1 + 1 + 1 + 1 < wq.heap.size := by omega); (try have gQ5 : w.heap.size + 1 + 1 + 1 + 1 + 1 < wq.heap.size := by omega); (try have dQ0 : _ < wq.heap.size := Nat.lt_of_lt_of_le dQ0 (by omega)); (try have dQ1 : _ < wq.heap.size := Nat.lt_of_lt_of_le dQ1 (by omega)); (try have dQ2 : _ < wq.heap.size := Nat.lt_of_lt_of_le dQ2 (by omega)); (try have dQ3 : _ < wq.heap.size := Nat.lt_of_lt_of_le dQ3 (by omega)); (try have dQ4 : _ < wq.heap.size := Nat.lt_of_lt_of_le dQ4 (by omega)); (try have dQ5 : _ < wq.heap.size := Nat.lt_of_lt_of_le dQ5 (by omega)); (try (have hnQ := Nat.lt_of_succ_le hz; first | (have _x := dQ0; first | (have _x := dQ1; first | (have _x := dQ2; first | (have _x := dQ3; first | (have _x := dQ4; have dQ5 := hnQ) | have dQ4 := hnQ) | have dQ3 := hnQ) | have dQ2 := hnQ) | have dQ1 := hnQ) | have dQ0 := hnQ)); (try (have hmQ := Nat.lt_of_succ_lt (Nat.lt_of_succ_le hz); first | (have _x := dQ0; first | (have _x := dQ1; first | (have _x := dQ2; first | (have _x := dQ3; first | (have _x := dQ4; have dQ5 := hmQ) | have dQ4 := hmQ) | have dQ3 := hmQ) | have dQ2 := hmQ) | have dQ1 := hmQ) | have dQ0 := hmQ)); have hcq : c < wq.heap.size := by omega)
    all_goals go_ret
    all_goals refine ⟨⟨_, rfl, and255 _⟩, ?_, by (repeat' first | (with_reducible exact only_refl _ _) | (with_reducible refine only_set ?_) | (with_reducible refine only_via (by assumption) ?_))⟩
    all_goals exact ⟨by first | omega | (simp; omega), by simp [go_sem, *], ⟨(k : Int), by simp [go_sem, *], by omega, by omega⟩, ⟨_, by simp [go_sem, *]; rfl⟩, fun j => by simp [go_sem, *]⟩
set_option maxHeartbeats 1000000 in
set_option maxRecDepth 100000 in
theorem l01Below_any (c : Nat) (v : Value) (l : List Int) (n : Int) (n0 : 0 < n) (n1 : n ≤ 256) (w0 w : World) (hv : Rd EBy w0 v l) (hok : ∀ y ∈ l, ByOk y) (h0 : w0.heap.size ≤ c) (hbel : Below w0.heap.size w0 w) (hcur : CurAt w c v l.length) :
    Calls Tryz.prog 47 #[.pointer (some ⟨c, 0, none⟩), .int .i64 n] w fun e w' => (∃ x : Int, e = .returned (.int .i64 x) ∧ 0 ≤ x ∧ x < n) ∧ CurAt w' c v l.length ∧ w.grownBy w' (some c) := by
  have HB := Lib.hid (l01Byte_any c v l w0 w hv hok h0 hbel hcur)
  clear hv hok hbel hcur
  go_enter Tryz.func47, Tryz.ntmps47
  go_wp2_with (go_at_call 85; refine HB.out.mono ?_; rintro e w' ⟨⟨x, rfl, x0, x1⟩, hcu, hb⟩; have hm0 := Int.emod_nonneg x (show n ≠ 0 by omega); have hm1 := Int.emod_lt_of_pos x n0)
  all_goals go_ret
  all_goals exact ⟨⟨_, rfl, by omega, by omega⟩, by assumption, by assumption⟩
end Go.Proofs.YtfmplmlilmalpaaGreat
