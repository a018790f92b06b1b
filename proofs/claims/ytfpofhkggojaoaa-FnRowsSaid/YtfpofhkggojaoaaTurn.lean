/- Turn: contracts of TurnRow and the reference's. Conditions: the row's length in range. -/
import Derived.Test.YtfpofhkggojaoaaRows1
import Derived.Test.YtfpofhkggojaoaaSortG
import Derived.Test.YtfpofhkggojaoaaShelfA
import Derived.Laws.IdiomStrings
import Derived.Sort.Grow
set_option linter.unusedVariables false
set_option linter.unusedSimpArgs false
namespace Peg
def turned (s : ByteArray) : ByteArray := ⟨s.data.reverse⟩
theorem dlen (s : ByteArray) : s.data.toList.length = s.size := Array.length_toList
theorem rev_arr (a : Array UInt8) : a.toList.reverse.toArray = a.reverse := by
  apply Array.ext'
  simp
def turnRow (s : ByteArray) : ByteArray := if rowOk s = true then turned s else ⟨#[]⟩
end Peg
namespace Go.Proofs.Ytfpofhkggojaoaa
open Go.ChangeShapes Go.WideShapes Go.ChangeAt Go.RowKit Peg Go.Sort
def encB (b : UInt8) : Value := .int .u8 b.toNat
/-- the world behind '[]byte(s)' -/
def bytesW (w : World) (s : ByteArray) : World := w.drew.alloc (.cells (bytesRow s (grownCap w s.size 0 5)) 5 ((bytesRow s (grownCap w s.size 0 5)).size, (bytesRow s (grownCap w s.size 0 5)).size + 1))
theorem bytes_holds (w : World) (s : ByteArray) : Holds encB (bytesW w s) w.heap.size 0 s.data := by
  intro j hj
  have hj2 : j < s.size := hj
  have h1 : j < (bytesRow s (grownCap w s.size 0 5)).size := by
    simp [bytesRow]
    omega
  have hc := World.cell?_alloc_mark w.drew (bytesRow s (grownCap w s.size 0 5)) 5 ((bytesRow s (grownCap w s.size 0 5)).size, (bytesRow s (grownCap w s.size 0 5)).size + 1) j
  have hf := World.frozen?_alloc_mark w.drew (bytesRow s (grownCap w s.size 0 5)) 5 (bytesRow s (grownCap w s.size 0 5)).size ((bytesRow s (grownCap w s.size 0 5)).size + 1) j
  rw [Nat.zero_add]
  refine ⟨hc.trans ?_, hf.trans ?_⟩
  · simp [bytesRow, encB, hj, hj2, Array.getElem?_append, getElem!_pos s.data j hj]
  · simp; omega
set_option maxRecDepth 100000 in
theorem rev_any (w : World) (s : ByteArray) (cap : Nat) (hs : s.size ≤ 9223372036854775807) :
    Calls Try.prog 144 #[.slice (some ⟨w.heap.size, 0, none⟩) s.size cap] (bytesW w s) fun e w' => e = .returned (.tuple #[]) ∧ Holds encB w' w.heap.size 0 s.data.reverse ∧ Below w.heap.size w w' := by
  have h := AnyE.slices_Reverse_arr Try.sl35 encB (fun _ => rfl) w.heap.size 0 cap s.data (bytesW w s) (bytes_holds w s) hs
  refine h.mono fun e w' ⟨he, n, hw⟩ => ⟨he, ?_, ?_⟩
  · rw [hw]
    exact holds_putRow encB (Sort.ahead (bytesW w s) n) w.heap.size 0 s.data s.data.reverse (holds_ahead encB _ n _ _ _ (bytes_holds w s)) (by simp)
  · rw [hw]
    have hg := grownBy_sortedG (enc := encB) (w := bytesW w s) (g := w.heap.size) (n := n) (os := #[]) s.data.reverse
    rw [grow_empty] at hg
    have hb0 : Below w.heap.size w (bytesW w s) := ((Below.refl _ _).drew).alloc (Nat.le_refl _) _
    exact hb0.grown hg (by show _ ≤ (w.heap.push _).size; simp) (fun k hk => by cases hk; exact Nat.le_refl _)
set_option maxRecDepth 100000 in
theorem TurnRow_any (s : ByteArray) (hs : s.size ≤ 1048576) (w : World) :
    Calls Try.prog 60 #[.string s] w fun e w' => e = .returned (.string (turnRow s)) ∧ Below w.heap.size w w' := by
  cases hok : rowOk s
  · have HR : Hid (turnRow s = ⟨#[]⟩) := by show _ = _; simp [turnRow, hok]
    have HO : Hid (∀ W, Calls Try.prog 64 #[.string s] W fun e w' => e = .returned (.bool false) ∧ W = w') := fun W => by rw [← hok]; exact RowOk_any s (by unfold maxLen; omega) W
    clear hok
    go_enter Try.func60, Try.ntmps60
    go_wp2_with (go_at_call 64; refine (HO.out _).mono ?_; rintro e w' ⟨rfl, rfl⟩)
    go_ret
    exact ⟨by rw [HR.out]; rfl, Below.refl _ _⟩
  have HR : Hid (turnRow s = turned s) := by show _ = _; simp [turnRow, hok]
  have HO : Hid (∀ W, Calls Try.prog 64 #[.string s] W fun e w' => e = .returned (.bool true) ∧ W = w') := fun W => by rw [← hok]; exact RowOk_any s (by unfold maxLen; omega) W
  clear hok
  have hcv : (convert 9 40 (.string s)).run Try.prog w = .ok (.slice (some ⟨w.heap.size, 0, none⟩) s.size (grownCap w s.size 0 5)) (bytesW w s) := run_bytes_of_string w _ _ _ s Try.underlying9 Try.underlying40 Try.underlying5
  have HREV := Lib.hid (fun cap => rev_any w s cap (by omega))
  generalize grownCap w s.size 0 5 = cap at *
  generalize bytesW w s = wb at *
  go_enter Try.func60, Try.ntmps60
  go_wp2_with (first | (go_at_call 64; refine (HO.out _).mono ?_; rintro e w' ⟨rfl, rfl⟩))
  refine (HREV.out _).mono ?_
  rintro e w' ⟨rfl, hH, hb⟩
  have hsz : (s.data.reverse.toList).length = s.size := by rw [Array.length_toList, Array.size_reverse]; rfl
  have hcb : ∀ (j : Nat) (hj : j < (s.data.reverse.toList).length), w'.cell? ((⟨w.heap.size, 0, none⟩ : Addr).add j) = some (.int .u8 ((s.data.reverse.toList)[j].toNat : Int)) := fun j hj => by
    have hj' : j < s.data.reverse.size := by simpa using hj
    have := (hH j hj').1
    rw [getElem!_pos s.data.reverse j hj'] at this
    have e0 : (⟨w.heap.size, 0, none⟩ : Addr).add j = ⟨w.heap.size, 0 + j, none⟩ := by cases j <;> simp [Addr.add]
    rw [e0, this]
    simp [encB]
  have hbk := run_convert_bytes_back w' 40 9 5 ⟨w.heap.size, 0, none⟩ cap s.data.reverse.toList Try.underlying40 Try.underlying5 Try.underlying9 hcb
  rw [hsz] at hbk
  have e1 : (⟨s.data.reverse.toList.toArray⟩ : ByteArray) = turned s := by unfold turned; rw [Array.toArray_toList]
  rw [e1] at hbk
  have HB := Lib.hid hb
  clear hH hb hcb hsz hcv e1
  generalize turned s = t at *
  go_wp2_with fail
  go_ret
  exact ⟨by rw [HR.out]; rfl, HB.out⟩
theorem info_u8 : (Try.prog.info? 5).map (fun i => (i.zero, i.size, i.bytes)) = some (some (.int .u8 0), 1, 1) := by kernel_rfl
def EU8 : Elt UInt8 where
  e := 5
  size := 1
  bytes := 1
  enc x := [.int .u8 x.toNat]
  len _ := rfl
  one _ u hu := by simp at hu; subst hu; rfl
  pos := by decide
  small := by decide
  info := ⟨_, info_u8, rfl⟩
/-- 'string(b)' of a slice of the calls' own -/
theorem back_own {w : World} {base : Nat} {v : Value} {l : List UInt8} (h : Own EU8 w base v l) : (convert 40 9 v).run Try.prog w = .ok (.string ⟨l.toArray⟩) w := by
  obtain ⟨a, cap, rfl, _, _, hg⟩ := h.form
  cases l with
  | nil =>
    rcases a with _ | a
    · exact run_convert_bytes_nil w 40 5 Try.underlying40 Try.underlying5 0 cap 9 Try.underlying9
    · exact run_convert_bytes_back w 40 9 5 a cap [] Try.underlying40 Try.underlying5 Try.underlying9 (fun j hj => by simp at hj)
  | cons x r =>
    obtain ⟨b, rfl, _, _, _⟩ := hg 0 (by simp)
    refine run_convert_bytes_back w 40 9 5 ⟨b, 0, none⟩ cap (x :: r) Try.underlying40 Try.underlying5 Try.underlying9 (fun j hj => ?_)
    obtain ⟨b', e, _, _, hc⟩ := hg j hj
    obtain rfl : b = b' := by simpa using e
    have e0 : (⟨b, 0, none⟩ : Addr).add j = ⟨b, j * 1 + 0, none⟩ := by cases j <;> simp [Addr.add]
    rw [e0]
    have := hc 0 (by decide)
    simpa [EU8] using this
end Go.Proofs.Ytfpofhkggojaoaa
