/- Turn: contracts of TurnRow and the reference's. Conditions: the row's length in range. -/
import Derived.Test.YtkaojpcpfbbicaaRows1
import Derived.Test.YtkaojpcpfbbicaaSortG
import Derived.Test.YtkaojpcpfbbicaaShelfA
import Derived.Laws.IdiomStrings
import Derived.Sort.Grow
set_option linter.unusedVariables false
set_option linter.unusedSimpArgs false
namespace Peg
def turned (s : ByteArray) : ByteArray := ⟨s.data.reverse⟩
theorem dlen (s : ByteArray) : s.data.toList.length = s.size := Array.length_toList
theorem rev_arr (a : Array UInt8) : a.toList.reverse.toArray = a.reverse := by
  apply Array.ext'
  simp
def turnRow (s : ByteArray) : ByteArray := if rowOk s = true then turned s else ⟨#[]⟩
end Peg
namespace Go.Proofs.Ytkaojpcpfbbicaa
open Go.ChangeShapes Go.WideShapes Go.ChangeAt Go.RowKit Peg Go.Sort
def encB (b : UInt8) : Value := .int .u8 b.toNat
/-- the world behind '[]byte(s)' -/
def bytesW (w : World) (s : ByteArray) : World := w.drew.alloc (.cells (bytesRow s (grownCap w s.size 0 5)) 5 ((bytesRow s (grownCap w s.size 0 5)).size, (bytesRow s (grownCap w s.size 0 5)).size + 1))
theorem bytes_holds (w : World) (s : ByteArray) : Holds encB (bytesW w s) w.heap.size 0 s.data := by
  intro j hj
  have hj2 : j < s.size := hj
  have h1 : j < (bytesRow s (grownCap w s.size 0 5)).size := by
    simp [bytesRow]
    omega
  have hc := World.cell?_alloc_mark w.drew (bytesRow s (grownCap w s.size 0 5)) 5 ((bytesRow s (grownCap w s.size 0 5)).size, (bytesRow s (grownCap w s.size 0 5)).size + 1) j
  have hf := World.frozen?_alloc_mark w.drew (bytesRow s (grownCap w s.size 0 5)) 5 (bytesRow s (grownCap w s.size 0 5)).size ((bytesRow s (grownCap w s.size 0 5)).size + 1) j
  rw [Nat.zero_add]
  refine ⟨hc.trans ?_, hf.trans ?_⟩
  · simp [bytesRow, encB, hj, hj2, Array.getElem?_append, getElem!_pos s.data j hj]
  · simp; omega
set_option maxRecDepth 100000 in
theorem rev_any (w : World) (s : ByteArray) (cap : Nat) (hs : s.size ≤ 9223372036854775807) :
    Calls Try.prog 24 #[.slice (some ⟨w.heap.size, 0, none⟩) s.size cap] (bytesW w s) fun e w' => e = .returned (.tuple #[]) ∧ Holds encB w' w.heap.size 0 s.data.reverse ∧ Below w.heap.size w w' := by
  have h := AnyE.slices_Reverse_arr Try.sl35 encB (fun _ => rfl) w.heap.size 0 cap s.data (bytesW w s) (bytes_holds w s) hs
  refine h.mono fun e w' ⟨he, n, hw⟩ => ⟨he, ?_, ?_⟩
  · rw [hw]
    exact holds_putRow encB (Sort.ahead (bytesW w s) n) w.heap.size 0 s.data s.data.reverse (holds_ahead encB _ n _ _ _ (bytes_holds w s)) (by simp)
  · rw [hw]
    have hg := grownBy_sortedG (enc := encB) (w := bytesW w s) (g := w.heap.size) (n := n) (os := #[]) s.data.reverse
    rw [grow_empty] at hg
    have hb0 : Below w.heap.size w (bytesW w s) := ((Below.refl _ _).drew).alloc (Nat.le_refl _) _
    exact hb0.grown hg (by show _ ≤ (w.heap.push _).size; simp) (fun k hk => by cases hk; exact Nat.le_refl _)
set_option maxRecDepth 100000 in
theorem TurnRow_any (s : ByteArray) (hs : s.size ≤ 1048576) (w : World) :
    Calls Try.prog 9 #[.string s] w fun e w' => e = .returned (.string (turnRow s)) ∧ Below w.heap.size w w' := by
  cases hok : rowOk s
  · have HR : Hid (turnRow s = ⟨#[]⟩) := by show _ = _; simp [turnRow, hok]
    have HO : Hid (∀ W, Calls Try.prog 23 #[.string s] W fun e w' => e = .returned (.bool false) ∧ W = w') := fun W => by rw [← hok]; exact RowOk_any s (by unfold maxLen; omega) W
    clear hok
    go_enter Try.func9, Try.ntmps9
    go_wp2_with (go_at_call 23; refine (HO.out _).mono ?_; rintro e w' ⟨rfl, rfl⟩)
    go_ret
    exact ⟨by rw [HR.out]; rfl, Below.refl _ _⟩
  have HR : Hid (turnRow s = turned s) := by show _ = _; simp [turnRow, hok]
  have HO : Hid (∀ W, Calls Try.prog 23 #[.string s] W fun e w' => e = .returned (.bool true) ∧ W = w') := fun W => by rw [← hok]; exact RowOk_any s (by unfold maxLen; omega) W
  clear hok
  have hcv : (convert 9 38 (.string s)).run Try.prog w = .ok (.slice (some ⟨w.heap.size, 0, none⟩) s.size (grownCap w s.size 0 5)) (bytesW w s) := run_bytes_of_string w _ _ _ s Try.underlying9 Try.underlying38 Try.underlying5
  have HREV := Lib.hid (fun cap => rev_any w s cap (by omega))
  generalize grownCap w s.size 0 5 = cap at *
  generalize bytesW w s = wb at *
  go_enter Try.func9, Try.ntmps9
  go_wp2_with (first | (go_at_call 23; refine (HO.out _).mono ?_; rintro e w' ⟨rfl, rfl⟩))
  refine (HREV.out _).mono ?_
  rintro e w' ⟨rfl, hH, hb⟩
  have hsz : (s.data.reverse.toList).length = s.size := by rw [Array.length_toList, Array.size_reverse]; rfl
  have hcb : ∀ (j : Nat) (hj : j < (s.data.reverse.toList).length), w'.cell? ((⟨w.heap.size, 0, none⟩ : Addr).add j) = some (.int .u8 ((s.data.reverse.toList)[j].toNat : Int)) := fun j hj => by
    have hj' : j < s.data.reverse.size := by simpa using hj
    have := (hH j hj').1
    rw [getElem!_pos s.data.reverse j hj'] at this
    have e0 : (⟨w.heap.size, 0, none⟩ : Addr).add j = ⟨w.heap.size, 0 + j, none⟩ := by cases j <;> simp [Addr.add]
    rw [e0, this]
    simp [encB]
  have hbk := run_convert_bytes_back w' 38 9 5 ⟨w.heap.size, 0, none⟩ cap s.data.reverse.toList Try.underlying38 Try.underlying5 Try.underlying9 hcb
  rw [hsz] at hbk
  have e1 : (⟨s.data.reverse.toList.toArray⟩ : ByteArray) = turned s := by unfold turned; rw [Array.toArray_toList]
  rw [e1] at hbk
  have HB := Lib.hid hb
  clear hH hb hcb hsz hcv e1
  generalize turned s = t at *
  go_wp2_with fail
  go_ret
  exact ⟨by rw [HR.out]; rfl, HB.out⟩
theorem info_u8 : (Try.prog.info? 5).map (fun i => (i.zero, i.size, i.bytes)) = some (some (.int .u8 0), 1, 1) := by kernel_rfl
def EU8 : Elt UInt8 where
  e := 5
  size := 1
  bytes := 1
  enc x := [.int .u8 x.toNat]
  len _ := rfl
  one _ u hu := by simp at hu; subst hu; rfl
  pos := by decide
  small := by decide
  info := ⟨_, info_u8, rfl⟩
/-- 'string(b)' of a slice of the calls' own -/
theorem back_own {w : World} {base : Nat} {v : Value} {l : List UInt8} (h : Own EU8 w base v l) : (convert 38 9 v).run Try.prog w = .ok (.string ⟨l.toArray⟩) w := by
  obtain ⟨a, cap, rfl, _, _, hg⟩ := h.form
  cases l with
  | nil =>
    rcases a with _ | a
    · exact run_convert_bytes_nil w 38 5 Try.underlying38 Try.underlying5 0 cap 9 Try.underlying9
    · exact run_convert_bytes_back w 38 9 5 a cap [] Try.underlying38 Try.underlying5 Try.underlying9 (fun j hj => by simp at hj)
  | cons x r =>
    obtain ⟨b, rfl, _, _, _⟩ := hg 0 (by simp)
    refine run_convert_bytes_back w 38 9 5 ⟨b, 0, none⟩ cap (x :: r) Try.underlying38 Try.underlying5 Try.underlying9 (fun j hj => ?_)
    obtain ⟨b', e, _, _, hc⟩ := hg j hj
    obtain rfl : b = b' := by simpa using e
    have e0 : (⟨b, 0, none⟩ : Addr).add j = ⟨b, j * 1 + 0, none⟩ := by cases j <;> simp [Addr.add]
    rw [e0]
    have := hc 0 (by decide)
    simpa [EU8] using this
set_option maxHeartbeats 1000000 in
set_option maxRecDepth 100000 in
theorem sTurnRow_any (s : ByteArray) (hs : s.size ≤ 1048576) (w : World) :
    Calls Try.prog 8 #[.string s] w fun e w' => e = .returned (.string (turnRow s)) ∧ Below w.heap.size w w' := by
  cases hok : rowOk s
  · have HR : Hid (turnRow s = ⟨#[]⟩) := by show _ = _; simp [turnRow, hok]
    have HO : Hid (∀ W, Calls Try.prog 22 #[.string s] W fun e w' => e = .returned (.bool false) ∧ W = w') := fun W => by rw [← hok]; exact sRowOk_any s (by unfold maxLen; omega) W
    have HBK : Hid (∀ W a, (convert 38 9 (.slice a 0 0)).run Try.prog W = .ok (.string ⟨#[]⟩) W) := fun W a => back_own (Own.emptyAny EU8 W 0 a)
    clear hok
    go_enter Try.func8, Try.ntmps8
    go_wp2_with fail
    go_loopw [3, 4] (fun o k wr => o = .slice (some ⟨w.heap.size, 0, none⟩) 0 0 ∧ k = .int .i64 ((s.size : Int) + -1) ∧ Below w.heap.size w wr) (fun _ _ _ => 0)
    case atStart => exact ⟨rfl, rfl, by (repeat' first | (with_reducible exact Below.refl _ _) | (with_reducible refine Below.alloc ?_ ?_ _) | (with_reducible refine Below.drew ?_) | (with_reducible refine Below.setCell ?_ ?_ _) | (with_reducible refine below_via (by assumption) ?_ ?_) | go_size)⟩
    case round =>
      obtain ⟨rfl, rfl, hbw⟩ := hrel
      have hbk := HBK.out
      by_cases h0 : 1 ≤ s.size
      · have h1 : (0 : Int) ≤ (s.size : Int) + -1 := by omega
        go_wp2_with (go_at_call 22; refine (HO.out _).mono ?_; rintro e w' ⟨rfl, rfl⟩)
        go_ret
        exact ⟨by rw [HR.out]; rfl, hbw⟩
      · have h1 : (s.size : Int) + -1 < 0 := by omega
        go_wp2_with fail
        go_ret
        exact ⟨by rw [HR.out]; rfl, hbw⟩
  have HR : Hid (turnRow s = turned s) := by show _ = _; simp [turnRow, hok]
  have HO : Hid (∀ W, Calls Try.prog 22 #[.string s] W fun e w' => e = .returned (.bool true) ∧ W = w') := fun W => by rw [← hok]; exact sRowOk_any s (by unfold maxLen; omega) W
  clear hok
  go_enter Try.func8, Try.ntmps8
  go_wp2_with fail
  go_loopw [3, 4] (fun o k wr => ∃ j : Nat, j ≤ s.size ∧ k = .int .i64 ((j : Int) + -1) ∧ Own EU8 wr w.heap.size o (s.data.toList.drop j).reverse ∧ Below w.heap.size w wr) (fun _ k _ => (intOf k + 1).toNat)
  case atStart => exact ⟨s.size, by omega, rfl, by rw [List.drop_of_length_le (by rw [dlen]; exact Nat.le_refl _)]; exact Own.emptyAny _ _ _ _, by (repeat' first | (with_reducible exact Below.refl _ _) | (with_reducible refine Below.alloc ?_ ?_ _) | (with_reducible refine Below.drew ?_) | (with_reducible refine Below.setCell ?_ ?_ _) | (with_reducible refine below_via (by assumption) ?_ ?_) | go_size)⟩
  case round =>
    obtain ⟨j, hj, rfl, hown, hbw⟩ := hrel
    have hz := hbw.size
    rcases j with _ | m
    · have HL : Hid ((⟨((s.data.toList.drop 0).reverse).toArray⟩ : ByteArray) = turned s) := by show _ = _; unfold turned; rw [List.drop_zero, rev_arr]
      have hbk := back_own hown
      rw [HL.out] at hbk
      clear hown
      go_wp2_with fail
      go_ret
      exact ⟨by rw [HR.out]; rfl, hbw⟩
    · have hm : m < s.size := by omega
      have em : (((m + 1 : Nat) : Int) + -1) = m := by omega
      have HN : Hid ((s.data.toList.drop m).reverse = (s.data.toList.drop (m + 1)).reverse ++ [s[m]]) := by
        show _ = _
        rw [List.drop_eq_getElem_cons (by rw [dlen]; exact hm), List.reverse_cons]
        rfl
      have hlen : ((s.data.toList.drop (m + 1)).reverse).length ≤ 1048576 := by rw [List.length_reverse, List.length_drop, dlen]; omega
      rw [em]
      clear em
      generalize (s.data.toList.drop (m + 1)).reverse = D at *
      go_wp2_with (first | (go_at_call 22; refine (HO.out _).mono ?_; rintro e w' ⟨rfl, rfl⟩) | (at_builtin; (refine append1 (E := EU8) (l := D) rfl rfl _ _ 38 rfl Try.underlying38 rfl hown s[m] rfl (by omega) (by omega) ?_); intro v' w2 hown2 hb2 hg2))
      go_roundw
      case rel => exact ⟨m, by omega, rfl, by rw [HN.out]; exact hown2, hbw.trans hb2⟩
      case measure => simp [intOf]
end Go.Proofs.Ytkaojpcpfbbicaa
