/- MarkT: the contract of the laws' markText. Conditions: a number in range. -/
import Derived.Test.YtkaojpcpfbbicaaMemS
import Derived.Test.YtkaojpcpfbbicaaNum
import Derived.Laws.BytesString
set_option linter.unusedVariables false
set_option linter.unusedSimpArgs false
namespace Peg
def mkGo : Nat → Nat → List UInt8 → List UInt8
  | 0, _, acc => acc
  | f + 1, k, acc => if k = 0 then acc else mkGo f (k / 10) (UInt8.ofNat (48 + k % 10) :: acc)
theorem cat1 (n : Nat) (acc : List UInt8) : ((⟨#[48 + UInt8.ofNat n]⟩ : ByteArray) ++ ⟨acc.toArray⟩) = ⟨(UInt8.ofNat (48 + n) :: acc).toArray⟩ := by
  have : (48 + UInt8.ofNat n : UInt8) = UInt8.ofNat (48 + n) := by simp
  rw [this]
  ext1
  simp
def mkText (k : Nat) : ByteArray := ⟨(109 :: (if k = 0 then [48] else mkGo k k [])).toArray⟩
end Peg
namespace Go.Proofs.Ytkaojpcpfbbicaa
open Go.ChangeShapes Go.WideShapes Go.ChangeAt Go.RowKit Peg Go.Sort
theorem conv1 (n : Int) (w : World) :
    (convert 38 9 (.slice (some ⟨w.heap.size, 0, none⟩) 1 1)).run Try.prog (w.alloc (.cells #[.int .u8 n] 5)) = .ok (.string ⟨#[UInt8.ofNat n.toNat]⟩) (w.alloc (.cells #[.int .u8 n] 5)) := by
  rw [run_convert_bytes_string (P := Try.prog) _ _ _ 5 _ _ _ Try.underlying38 Try.underlying5 Try.underlying9]
  rw [run_bytesToString (P := Try.prog) _ ⟨w.heap.size, 0, none⟩ 1 1 [n] (by simp [go_sem, loadCells, loadCellsFrom])]
  rfl
end Go.Proofs.Ytkaojpcpfbbicaa
