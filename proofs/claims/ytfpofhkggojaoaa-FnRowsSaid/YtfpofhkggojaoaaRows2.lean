/- Rows2: rows turned, rows made longer, the least of a row by its jumps; no program in sight. No condition. -/
import Derived.Test.YtfpofhkggojaoaaLeast3
set_option linter.unusedVariables false
set_option linter.unusedSimpArgs false
namespace Peg
/-- the rows after one jump, by recursion over the row -/
def jh (L : List UInt8) : List (List UInt8) := if L.take 3 = [111, 111, 46] then [46 :: 46 :: 111 :: L.drop 3] else if L.take 3 = [46, 111, 111] then [111 :: 46 :: 46 :: L.drop 3] else []
def jl : List UInt8 → List (List UInt8)
  | [] => []
  | x :: r => jh (x :: r) ++ (jl r).map (x :: ·)
theorem jh_mem (L x : List UInt8) : x ∈ jh L ↔ ∃ B : List UInt8, (L = [111, 111, 46] ++ B ∧ x = [46, 46, 111] ++ B) ∨ (L = [46, 111, 111] ++ B ∧ x = [111, 46, 46] ++ B) := by
  unfold jh
  constructor
  · intro h
    split at h
    · rename_i h1
      refine ⟨L.drop 3, .inl ⟨?_, List.mem_singleton.1 h⟩⟩
      rw [← h1, List.take_append_drop]
    · split at h
      · rename_i h1
        refine ⟨L.drop 3, .inr ⟨?_, List.mem_singleton.1 h⟩⟩
        rw [← h1, List.take_append_drop]
      · cases h
  · rintro ⟨B, ⟨rfl, rfl⟩ | ⟨rfl, rfl⟩⟩
    · rw [if_pos (by rfl)]; exact List.mem_singleton.2 rfl
    · rw [if_neg (by intro h; simp at h), if_pos (by rfl)]; exact List.mem_singleton.2 rfl
theorem jl_mem (L x : List UInt8) : x ∈ jl L ↔ ∃ A B : List UInt8, (L = A ++ ([111, 111, 46] ++ B) ∧ x = A ++ ([46, 46, 111] ++ B)) ∨ (L = A ++ ([46, 111, 111] ++ B) ∧ x = A ++ ([111, 46, 46] ++ B)) := by
  induction L generalizing x with
  | nil => simp [jl]
  | cons c r ih =>
    rw [jl, List.mem_append, List.mem_map, jh_mem]
    constructor
    · rintro (⟨B, h⟩ | ⟨y, hy, rfl⟩)
      · exact ⟨[], B, h⟩
      · obtain ⟨A, B, h1⟩ := (ih y).1 hy
        rcases h1 with ⟨h1, h2⟩ | ⟨h1, h2⟩
        · exact ⟨c :: A, B, .inl ⟨by rw [h1]; rfl, by rw [h2]; rfl⟩⟩
        · exact ⟨c :: A, B, .inr ⟨by rw [h1]; rfl, by rw [h2]; rfl⟩⟩
    · rintro ⟨A, B, h1⟩
      cases A with
      | nil => exact .inl ⟨B, h1⟩
      | cons a A =>
        right
        rcases h1 with ⟨h1, h2⟩ | ⟨h1, h2⟩
        · rw [List.cons_append, List.cons.injEq] at h1
          obtain ⟨rfl, h1⟩ := h1
          exact ⟨A ++ ([46, 46, 111] ++ B), (ih _).2 ⟨A, B, .inl ⟨h1, rfl⟩⟩, by rw [h2]; rfl⟩
        · rw [List.cons_append, List.cons.injEq] at h1
          obtain ⟨rfl, h1⟩ := h1
          exact ⟨A ++ ([111, 46, 46] ++ B), (ih _).2 ⟨A, B, .inr ⟨h1, rfl⟩⟩, by rw [h2]; rfl⟩
theorem jl_nodup (L : List UInt8) : (jl L).Nodup := by
  induction L with
  | nil => simp [jl]
  | cons c r ih =>
    rw [jl, List.nodup_append]
    refine ⟨by unfold jh; split <;> (try split) <;> simp, ?_, ?_⟩
    · exact List.pairwise_map.2 (ih.imp fun hab e => hab (List.cons.inj e).2)
    · intro a ha b hb e
      obtain ⟨y, _, rfl⟩ := List.mem_map.1 hb
      obtain ⟨B, ⟨h1, rfl⟩ | ⟨h1, rfl⟩⟩ := (jh_mem _ _).1 ha
      · rw [List.cons_append, List.cons.injEq] at h1
        rw [h1.1, List.cons_append, List.cons.injEq] at e
        exact absurd e.1 (by decide)
      · rw [List.cons_append, List.cons.injEq] at h1
        rw [h1.1, List.cons_append, List.cons.injEq] at e
        exact absurd e.1 (by decide)
/-- the jumps of a row are those of its list, in their order -/
theorem rowJumps_jl {s : ByteArray} (hs : rowOk s = true) : (rowJumps s).map (fun x => x.data.toList) = jl s.data.toList := by
  have key : ∀ (L : List UInt8), (List.range (L.length - 2)).flatMap (fun k => if (L.drop k).take 3 = [111, 111, 46] then [L.take k ++ [46, 46, 111] ++ L.drop (k + 3)] else if (L.drop k).take 3 = [46, 111, 111] then [L.take k ++ [111, 46, 46] ++ L.drop (k + 3)] else []) = jl L := by
    intro L
    induction L with
    | nil => rfl
    | cons c r ih =>
      match r, ih with
      | [], _ => simp [jl, jh]
      | [b], _ => simp [jl, jh]
      | b :: d :: t, ih =>
        rw [jl, ← ih]
        have e : (c :: b :: d :: t).length - 2 = ((b :: d :: t).length - 2) + 1 := by simp
        rw [e, List.range_succ_eq_map, List.flatMap_cons, List.flatMap_map]
        congr 1
        · rw [List.map_flatMap]
          congr 1
          funext k
          simp only [List.drop_succ_cons, List.take_succ_cons]
          split
          · simp
          · split <;> simp
  rw [← key, rowJumps, if_pos hs, List.map_flatMap, size_toList]
  congr 1
  funext k
  have e : (s.extract k (k + 3)).toList = (s.data.toList.drop k).take 3 := by
    rw [Go.ByteArray.toList_eq]
    simp only [ByteArray.data_extract, Array.toList_extract, List.extract_eq_take_drop, Nat.add_sub_cancel_left]
  have e0 : (s.extract 0 k).data.toList = s.data.toList.take k := by simp
  have e1 : (s.extract (k + 3) s.size).data.toList = s.data.toList.drop (k + 3) := by
    simp only [ByteArray.data_extract, Array.toList_extract, List.extract_eq_take_drop]
    exact List.take_of_length_le (by rw [List.length_drop, Array.length_toList]; exact Nat.le_refl _)
  unfold rjAt
  rw [e]
  simp only [beq_iff_eq]
  split
  · simp only [List.map_cons, List.map_nil, ByteArray.data_append, Array.toList_append, e0, e1]; rfl
  · split
    · simp only [List.map_cons, List.map_nil, ByteArray.data_append, Array.toList_append, e0, e1]; rfl
    · rfl
theorem bytes_ext {a b : ByteArray} (h : a.data.toList = b.data.toList) : a = b := by
  have : a.data = b.data := Array.toList_inj.1 h
  cases a; cases b; simp at this; rw [this]
theorem mem_rowJumps {s x : ByteArray} (hs : rowOk s = true) : x ∈ rowJumps s ↔ x.data.toList ∈ jl s.data.toList := by
  rw [← rowJumps_jl hs, List.mem_map]
  exact ⟨fun h => ⟨x, h, rfl⟩, fun ⟨y, hy, e⟩ => by rw [← bytes_ext e]; exact hy⟩
theorem turned_list (s : ByteArray) : (turned s).data.toList = s.data.toList.reverse := by simp [turned]
theorem turned_turned (s : ByteArray) : turned (turned s) = s := bytes_ext (by rw [turned_list, turned_list, List.reverse_reverse])
theorem turned_size (s : ByteArray) : (turned s).size = s.size := by rw [← size_toList, ← size_toList, turned_list, List.length_reverse]
theorem turned_ok (s : ByteArray) : rowOk (turned s) = rowOk s := by
  rw [rowOk, rowOk, turned_size, turned_list, List.all_reverse]
theorem turned_pg (s : ByteArray) : pg (turned s) = pg s := by rw [pg, pg, turned_list, List.count_reverse]
theorem jl_reverse (L x : List UInt8) (h : x ∈ jl L) : x.reverse ∈ jl L.reverse := by
  obtain ⟨A, B, h⟩ := (jl_mem L x).1 h
  refine (jl_mem _ _).2 ⟨B.reverse, A.reverse, ?_⟩
  rcases h with ⟨rfl, rfl⟩ | ⟨rfl, rfl⟩
  · right; simp
  · left; simp
theorem mem_turned {s x : ByteArray} (h : x ∈ rowJumps s) : turned x ∈ rowJumps (turned s) := by
  have hs := (rowJumps_split h).1
  rw [mem_rowJumps (by rw [turned_ok]; exact hs), turned_list, turned_list]
  exact jl_reverse _ _ ((mem_rowJumps hs).1 h)
theorem rowJumps_len_jl {s : ByteArray} (hs : rowOk s = true) : (rowJumps s).length = (jl s.data.toList).length := by rw [← rowJumps_jl hs, List.length_map]
theorem rowJumps_turned_len {s : ByteArray} (hs : rowOk s = true) : (rowJumps (turned s)).length = (rowJumps s).length := by
  rw [rowJumps_len_jl hs, rowJumps_len_jl (by rw [turned_ok]; exact hs), turned_list]
  have key : ∀ L : List UInt8, (jl L).length ≤ (jl L.reverse).length := by
    intro L
    have h1 : ((jl L).map List.reverse).Nodup := List.pairwise_map.2 ((jl_nodup L).imp fun hab e => hab (List.reverse_inj.1 e))
    have h2 := nodup_le _ (jl L.reverse) h1 (fun x hx => by
      obtain ⟨y, hy, rfl⟩ := List.mem_map.1 hx
      exact jl_reverse _ _ hy)
    rwa [List.length_map] at h2
  have h1 := key s.data.toList
  have h2 := key s.data.toList.reverse
  rw [List.reverse_reverse] at h2
  omega
theorem rowsAt_turned {s : ByteArray} {k : Nat} {x : ByteArray} (h : x ∈ rowsAt s k) : turned x ∈ rowsAt (turned s) k := by
  induction k generalizing x with
  | zero => rw [List.mem_singleton.1 h]; exact List.mem_singleton.2 rfl
  | succ k ih =>
    obtain ⟨y, hy, hx⟩ := List.mem_flatMap.1 h
    exact List.mem_flatMap.2 ⟨turned y, ih hy, mem_turned hx⟩
/-- the last layer that is not empty, at most f jumps behind layer k -/
def lastC (s : ByteArray) : Nat → Nat → Nat
  | 0, k => k
  | f + 1, k => if (rowsAt s (k + 1)).isEmpty = true then k else lastC s f (k + 1)
theorem lastC_least {s : ByteArray} (hs : rowOk s = true) : ∀ (f k : Nat), rowsAt s k ≠ [] → pg s ≤ k + f → IsLeast s (pg s - lastC s f k) := by
  intro f
  induction f with
  | zero => intro k h h2; exact (least_layers hs h (rowsAt_none hs (by omega))).2
  | succ f ih =>
    intro k h h2
    rw [lastC]
    split
    · rename_i h3; exact (least_layers hs h (List.isEmpty_iff.1 h3)).2
    · rename_i h3; exact ih (k + 1) (fun e => h3 (by rw [e]; rfl)) (by omega)
theorem least_some {s : ByteArray} (hs : rowOk s = true) : IsLeast s (pg s - lastC s (pg s) 0) := lastC_least hs _ 0 (by simp [rowsAt]) (by omega)
theorem rowLeast_ex {s : ByteArray} (hs : rowOk s = true) : ∃ n : Nat, rowLeast s = n ∧ IsLeast s n := ⟨_, rowLeast_of hs (least_some hs), least_some hs⟩
theorem rowLeast_turned {s : ByteArray} (hs : rowOk s = true) : rowLeast (turned s) = rowLeast s := by
  obtain ⟨n, h1, ⟨k, x, hx, hn⟩, h3⟩ := rowLeast_ex hs
  rw [h1]
  refine rowLeast_of (by rw [turned_ok]; exact hs) ⟨⟨k, turned x, rowsAt_turned hx, by rw [turned_pg]; exact hn⟩, fun j y hy => ?_⟩
  have := h3 j (turned y) (by have := rowsAt_turned hy; rwa [turned_turned] at this)
  rwa [turned_pg] at this
/-- one empty hole more -/
def longer (s : ByteArray) : ByteArray := s ++ ⟨#[46]⟩
theorem longer_list (s : ByteArray) : (longer s).data.toList = s.data.toList ++ [46] := by simp [longer]
theorem longer_size (s : ByteArray) : (longer s).size = s.size + 1 := by rw [← size_toList, ← size_toList, longer_list]; simp
theorem longer_ok {s : ByteArray} (hs : rowOk s = true) (h : s.size ≤ 13) : rowOk (longer s) = true := by
  rw [rowOk, longer_size, longer_list, List.all_append]
  rw [rowOk] at hs
  simp only [Bool.and_eq_true, decide_eq_true_eq] at hs ⊢
  exact ⟨⟨by omega, by omega⟩, hs.2, by simp [okB]⟩
theorem longer_pg (s : ByteArray) : pg (longer s) = pg s := by rw [pg, pg, longer_list]; simp [List.count_append, List.count_cons]
theorem mem_longer {s x : ByteArray} (hl : s.size ≤ 13) (h : x ∈ rowJumps s) : longer x ∈ rowJumps (longer s) := by
  have hs := (rowJumps_split h).1
  rw [mem_rowJumps (longer_ok hs hl), longer_list, longer_list]
  obtain ⟨A, B, h⟩ := (jl_mem _ _).1 ((mem_rowJumps hs).1 h)
  refine (jl_mem _ _).2 ⟨A, B ++ [46], ?_⟩
  rcases h with ⟨h1, h2⟩ | ⟨h1, h2⟩
  · left; rw [h1, h2]; simp
  · right; rw [h1, h2]; simp
theorem rowsAt_longer {s : ByteArray} (hs : rowOk s = true) (hl : s.size ≤ 13) {k : Nat} {x : ByteArray} (h : x ∈ rowsAt s k) : longer x ∈ rowsAt (longer s) k := by
  induction k generalizing x with
  | zero => rw [List.mem_singleton.1 h]; exact List.mem_singleton.2 rfl
  | succ k ih =>
    obtain ⟨y, hy, hx⟩ := List.mem_flatMap.1 h
    exact List.mem_flatMap.2 ⟨longer y, ih hy, mem_longer (by have := (rowsAt_ok hs hy).2.1; omega) hx⟩
theorem rowLeast_longer {s : ByteArray} (hs : rowOk s = true) (hl : s.size ≤ 13) : rowLeast (longer s) ≤ rowLeast s := by
  obtain ⟨n, h1, ⟨k, x, hx, hn⟩, h3⟩ := rowLeast_ex hs
  obtain ⟨m, h4, _, h5⟩ := rowLeast_ex (longer_ok hs hl)
  have := h5 k (longer x) (rowsAt_longer hs hl hx)
  rw [longer_pg] at this
  omega
theorem rowsAt_first {s : ByteArray} (k : Nat) : rowsAt s (k + 1) = (rowJumps s).flatMap fun x => rowsAt x k := by
  induction k with
  | zero => simp [rowsAt]
  | succ k ih => rw [rowsAt, ih, List.flatMap_assoc]; rfl
theorem rowLeast_jump {s x : ByteArray} (h : x ∈ rowJumps s) : rowLeast s ≤ rowLeast x := by
  have hs := (rowJumps_split h).1
  obtain ⟨n, h1, _, h3⟩ := rowLeast_ex hs
  obtain ⟨m, h4, ⟨k, y, hy, hm⟩, _⟩ := rowLeast_ex (rowJumps_ok h).1
  have := h3 (k + 1) y (by rw [rowsAt_first]; exact List.mem_flatMap.2 ⟨x, h, hy⟩)
  omega
/-- the least of the pegs and of the leasts behind the first k jumps -/
noncomputable def leastTo (s : ByteArray) (k : Nat) : Int := ((rowJumps s).take k).foldl (fun a x => min a (rowLeast x)) (pg s)
theorem foldl_min {f : ByteArray → Int} : ∀ (l : List ByteArray) (a : Int), l.foldl (fun a x => min a (f x)) a ≤ a ∧ (∀ x ∈ l, l.foldl (fun a x => min a (f x)) a ≤ f x) ∧ (l.foldl (fun a x => min a (f x)) a = a ∨ ∃ x ∈ l, l.foldl (fun a x => min a (f x)) a = f x)
  | [], a => ⟨by simp, by simp, by simp⟩
  | y :: l, a => by
    obtain ⟨h1, h2, h3⟩ := foldl_min (f := f) l (min a (f y))
    rw [List.foldl_cons]
    have h1' : l.foldl (fun a x => min a (f x)) (min a (f y)) ≤ min a (f y) := h1
    have h6 : min a (f y) ≤ a ∧ min a (f y) ≤ f y := ⟨Int.min_le_left _ _, Int.min_le_right _ _⟩
    have h7 : min a (f y) = a ∨ min a (f y) = f y := by omega
    refine ⟨Int.le_trans h1' h6.1, fun x hx => ?_, ?_⟩
    · rcases List.mem_cons.1 hx with rfl | hx
      · exact Int.le_trans h1' h6.2
      · exact h2 x hx
    · rcases h3 with h3 | ⟨x, hx, h3⟩
      · rcases h7 with h | h
        · exact .inl (h3.trans h)
        · exact .inr ⟨y, by simp, h3.trans h⟩
      · exact .inr ⟨x, by simp [hx], h3⟩
theorem leastTo_all {s : ByteArray} (hs : rowOk s = true) : leastTo s (rowJumps s).length = rowLeast s := by
  obtain ⟨n, h1, ⟨k, x, hx, hn⟩, h3⟩ := rowLeast_ex hs
  obtain ⟨f1, f2, f3⟩ := foldl_min (f := rowLeast) (rowJumps s) (pg s)
  rw [leastTo, List.take_length]
  have hle : (rowJumps s).foldl (fun a x => min a (rowLeast x)) (pg s : Int) ≤ rowLeast s := by
    cases k with
    | zero => rw [List.mem_singleton.1 hx] at hn; omega
    | succ k =>
      rw [rowsAt_first] at hx
      obtain ⟨y, hy, hx⟩ := List.mem_flatMap.1 hx
      obtain ⟨m, h4, _, h5⟩ := rowLeast_ex (rowJumps_ok hy).1
      have := h5 k x hx
      have := f2 y hy
      omega
  have hge : rowLeast s ≤ (rowJumps s).foldl (fun a x => min a (rowLeast x)) (pg s : Int) := by
    rcases f3 with h | ⟨y, hy, h⟩
    · rw [h]
      have := h3 0 s (by simp [rowsAt])
      omega
    · rw [h]; exact rowLeast_jump hy
  omega
theorem leastTo_zero (s : ByteArray) : leastTo s 0 = pg s := by simp [leastTo]
theorem leastTo_succ {s : ByteArray} {k : Nat} (h : k < (rowJumps s).length) : leastTo s (k + 1) = min (leastTo s k) (rowLeast (rowJumps s)[k]) := by
  rw [leastTo, List.take_succ_eq_append_getElem h, List.foldl_append]; rfl
/-- layers by lists: what the kernel can reckon -/
def lL (L : List UInt8) : Nat → List (List UInt8)
  | 0 => [L]
  | k + 1 => (lL L k).flatMap jl
theorem lL_eq {s : ByteArray} (hs : rowOk s = true) (k : Nat) : (rowsAt s k).map (fun x => x.data.toList) = lL s.data.toList k := by
  induction k with
  | zero => rfl
  | succ k ih =>
    rw [rowsAt, lL, ← ih, List.map_flatMap, List.flatMap_map]
    have key : ∀ l : List ByteArray, (∀ x ∈ l, rowOk x = true) → l.flatMap (fun a => (rowJumps a).map fun x => x.data.toList) = l.flatMap fun a => jl a.data.toList := by
      intro l
      induction l with
      | nil => intro _; rfl
      | cons y l ih2 =>
        intro h
        rw [List.flatMap_cons, List.flatMap_cons, rowJumps_jl (h y (by simp)), ih2 (fun x hx => h x (by simp [hx]))]
    exact key _ fun x hx => (rowsAt_ok hs hx).1
def lastL (L : List UInt8) : Nat → Nat → Nat
  | 0, k => k
  | f + 1, k => if (lL L (k + 1)).isEmpty = true then k else lastL L f (k + 1)
theorem lastL_eq {s : ByteArray} (hs : rowOk s = true) : ∀ f k, lastC s f k = lastL s.data.toList f k := by
  intro f
  induction f with
  | zero => intro k; rfl
  | succ f ih =>
    intro k
    have e : (rowsAt s (k + 1)).isEmpty = (lL s.data.toList (k + 1)).isEmpty := by rw [← lL_eq hs]; simp
    rw [lastC, lastL, e, ih]
def leastL (L : List UInt8) : Nat := L.count 111 - lastL L (L.count 111) 0
theorem rowLeast_L {s : ByteArray} (hs : rowOk s = true) : rowLeast s = leastL s.data.toList := by
  rw [rowLeast_of hs (least_some hs), lastL_eq hs]; rfl
theorem setRow_ok {n : Nat} (h0 : 1 ≤ n) (h1 : n ≤ 14) (m : Int) : rowOk (toB (setRow m n)) = true := by
  rw [rowOk]
  have e : (toB (setRow m n)).size = n := by rw [← size_toList, toB_data, setRow_length]
  rw [e, toB_data]
  simp only [Bool.and_eq_true, decide_eq_true_eq]
  refine ⟨⟨h0, h1⟩, List.all_eq_true.2 fun x hx => ?_⟩
  obtain ⟨i, _, rfl⟩ := List.mem_map.1 hx
  split <;> rfl
theorem countTo_L {n : Nat} (h0 : 1 ≤ n) (h1 : n ≤ 14) (m : Nat) : countTo n m = ((List.range m).filter fun i : Nat => leastL (setRow (i : Int) n) == 1).length := by
  unfold countTo
  congr 1
  refine List.filter_congr fun i _ => ?_
  rw [single, rowLeast_L (setRow_ok h0 h1 _), toB_data]
  by_cases h : leastL (setRow (i : Int) n) = 1
  · rw [h]; rfl
  · have h2 : ¬ ((leastL (setRow (i : Int) n) : Int) = 1) := by omega
    rw [beq_eq_false_iff_ne.2 h, beq_eq_false_iff_ne.2 h2]
theorem countRows_3 : countRows 3 = 5 := by
  rw [countRows, if_pos (by rfl), show (3 : Int).toNat = 3 from rfl, countTo_L (by omega) (by omega)]
  decide +kernel
theorem countRows_1 : countRows 1 = 1 := by
  rw [countRows, if_pos (by rfl), show (1 : Int).toNat = 1 from rfl, countTo_L (by omega) (by omega)]
  decide +kernel
end Peg
