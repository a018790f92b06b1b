/-
  No cell of these rows narrows 'for every input' (looked for: loops, veiled, ifaces, maps, wideKeys, modest, calm, conditions, laid).
  DERIVED. THE GIVEN ROWS OF THIS SEAT. 5 by the template 'for every input the law returns true; each argument reads behind the call as it read before'; 0 by the template 'total and deterministic' (their statements: YtkaojpcpfbbicaaTotals.lean).
  GIVEN WITH THE SEED: the statements are not yours to turn. If you find one false, say at which input.
  Laid BY PROGRAM, IN A SANDBOX (cutbox-rows.mjs): the forced cells as the released guide's own fill.sh prints them over the translation 15fb2d839d043b4c… (all of the seat's roots in one cut). By AI agents, Wed Nov 11 2026. No macro, syntax, notation, axiom, sorry.
-/
import Derived.Test.YtkaojpcpfbbicaaChecked
import GoSem.Claim
import GoSem.ClaimJoined
import GoSem.ClaimMapViews
import Derived.JoinedTies
import Derived.KernelRfl
namespace Go.Proofs.Ytkaojpcpfbbicaa
/- THE CELL 'sum', in the pinned program and in every row, IS THE sha256 OF THE DUMP (.gsa) THAT YtkaojpcpfbbicaaProg.lean LOADS. Nothing in Lean hashes anything: it is a label: what it is worth is what the hold of that sum in a sandbox is worth. -/
noncomputable def Try.pinned : Pinned := { name := "ytkaojpcpfbbicaa", sum := "15fb2d839d043b4c57b53d24d46dfb90543218ca28659e6e2d08329780c2f61c", checked := Try.checked }
namespace Rows
def none {H : Type} : Left H := { results := [], args := [] }

/-- 'laws.FnExactTurnRow': WHATEVER THE INPUT: true; the input reads as it did. -/
def fnExactTurnRowSpec : ChangeSpec := { name := "fnExactTurnRow", fn := fun _ => fun
  | [d] => { results := [.lit (.bool true)], args := [d] }
  | _ => none }
def fnExactTurnRowRow : OpenClaim := { program := "ytkaojpcpfbbicaa", sum := "15fb2d839d043b4c57b53d24d46dfb90543218ca28659e6e2d08329780c2f61c", func := "loop.example/g03302/laws.FnExactTurnRow", spec := "fnExactTurnRow", apart := false }
def FnExactTurnRowSaid : Prop := fnExactTurnRowRow.holds Try.pinned (OpenSpec.ofChange fnExactTurnRowSpec)

/-- ITS FALSE NEIGHBOUR: 'it returns false'. Refute it at one input. -/
def fnExactTurnRowWrong : ChangeSpec := { name := "fnExactTurnRow", fn := fun _ => fun
  | [d] => { results := [.lit (.bool false)], args := [d] }
  | _ => none }
def FnExactTurnRowWrongFalsely : Prop := fnExactTurnRowRow.holds Try.pinned (OpenSpec.ofChange fnExactTurnRowWrong)

/-- 'laws.FnExactReadPosition': WHATEVER THE INPUT: true; the input reads as it did. -/
def fnExactReadPositionSpec : ChangeSpec := { name := "fnExactReadPosition", fn := fun _ => fun
  | [d1, d2] => { results := [.lit (.bool true)], args := [d1, d2] }
  | _ => none }
def fnExactReadPositionRow : OpenClaim := { program := "ytkaojpcpfbbicaa", sum := "15fb2d839d043b4c57b53d24d46dfb90543218ca28659e6e2d08329780c2f61c", func := "loop.example/g03302/laws.FnExactReadPosition", spec := "fnExactReadPosition", apart := false }
def FnExactReadPositionSaid : Prop := fnExactReadPositionRow.holds Try.pinned (OpenSpec.ofChange fnExactReadPositionSpec)

/-- ITS FALSE NEIGHBOUR: 'it returns false'. Refute it at one input. -/
def fnExactReadPositionWrong : ChangeSpec := { name := "fnExactReadPosition", fn := fun _ => fun
  | [d1, d2] => { results := [.lit (.bool false)], args := [d1, d2] }
  | _ => none }
def FnExactReadPositionWrongFalsely : Prop := fnExactReadPositionRow.holds Try.pinned (OpenSpec.ofChange fnExactReadPositionWrong)

/-- 'laws.FnExactRowLeast': WHATEVER THE INPUT: true; the input reads as it did. -/
def fnExactRowLeastSpec : ChangeSpec := { name := "fnExactRowLeast", fn := fun _ => fun
  | [d] => { results := [.lit (.bool true)], args := [d] }
  | _ => none }
def fnExactRowLeastRow : OpenClaim := { program := "ytkaojpcpfbbicaa", sum := "15fb2d839d043b4c57b53d24d46dfb90543218ca28659e6e2d08329780c2f61c", func := "loop.example/g03302/laws.FnExactRowLeast", spec := "fnExactRowLeast", inPlace := ["internal/bytealg.CountString", "internal/bytealg.IndexByteString", "internal/bytealg.IndexString"], recurses := true, named := ["internal/bytealg.MaxLen"], apart := false }
def FnExactRowLeastSaid : Prop := fnExactRowLeastRow.holds Try.pinned (OpenSpec.ofChange fnExactRowLeastSpec)

/-- ITS FALSE NEIGHBOUR: 'it returns false'. Refute it at one input. -/
def fnExactRowLeastWrong : ChangeSpec := { name := "fnExactRowLeast", fn := fun _ => fun
  | [d] => { results := [.lit (.bool false)], args := [d] }
  | _ => none }
def FnExactRowLeastWrongFalsely : Prop := fnExactRowLeastRow.holds Try.pinned (OpenSpec.ofChange fnExactRowLeastWrong)

/-- 'laws.FnExactIsSingleRow': WHATEVER THE INPUT: true; the input reads as it did. -/
def fnExactIsSingleRowSpec : ChangeSpec := { name := "fnExactIsSingleRow", fn := fun _ => fun
  | [d] => { results := [.lit (.bool true)], args := [d] }
  | _ => none }
def fnExactIsSingleRowRow : OpenClaim := { program := "ytkaojpcpfbbicaa", sum := "15fb2d839d043b4c57b53d24d46dfb90543218ca28659e6e2d08329780c2f61c", func := "loop.example/g03302/laws.FnExactIsSingleRow", spec := "fnExactIsSingleRow", inPlace := ["internal/bytealg.CountString", "internal/bytealg.IndexByteString", "internal/bytealg.IndexString"], recurses := true, named := ["internal/bytealg.MaxLen"], apart := false }
def FnExactIsSingleRowSaid : Prop := fnExactIsSingleRowRow.holds Try.pinned (OpenSpec.ofChange fnExactIsSingleRowSpec)

/-- ITS FALSE NEIGHBOUR: 'it returns false'. Refute it at one input. -/
def fnExactIsSingleRowWrong : ChangeSpec := { name := "fnExactIsSingleRow", fn := fun _ => fun
  | [d] => { results := [.lit (.bool false)], args := [d] }
  | _ => none }
def FnExactIsSingleRowWrongFalsely : Prop := fnExactIsSingleRowRow.holds Try.pinned (OpenSpec.ofChange fnExactIsSingleRowWrong)

/-- 'laws.FnExactCountSingleRows': WHATEVER THE INPUT: true; the input reads as it did. -/
def fnExactCountSingleRowsSpec : ChangeSpec := { name := "fnExactCountSingleRows", fn := fun _ => fun
  | [d] => { results := [.lit (.bool true)], args := [d] }
  | _ => none }
def fnExactCountSingleRowsRow : OpenClaim := { program := "ytkaojpcpfbbicaa", sum := "15fb2d839d043b4c57b53d24d46dfb90543218ca28659e6e2d08329780c2f61c", func := "loop.example/g03302/laws.FnExactCountSingleRows", spec := "fnExactCountSingleRows", inPlace := ["internal/bytealg.CountString", "internal/bytealg.IndexByteString", "internal/bytealg.IndexString"], recurses := true, named := ["internal/bytealg.MaxLen"], apart := false }
def FnExactCountSingleRowsSaid : Prop := fnExactCountSingleRowsRow.holds Try.pinned (OpenSpec.ofChange fnExactCountSingleRowsSpec)

/-- ITS FALSE NEIGHBOUR: 'it returns false'. Refute it at one input. -/
def fnExactCountSingleRowsWrong : ChangeSpec := { name := "fnExactCountSingleRows", fn := fun _ => fun
  | [d] => { results := [.lit (.bool false)], args := [d] }
  | _ => none }
def FnExactCountSingleRowsWrongFalsely : Prop := fnExactCountSingleRowsRow.holds Try.pinned (OpenSpec.ofChange fnExactCountSingleRowsWrong)

/- THE SECOND FORM. 'bulk': how many values and letters a reading holds, each counted each time it is reached (what is shared counts as often as it is met; a slice's spare places count too). A statement '..UptoSaid' is the law's where the arguments, and the package variables that the reading takes, are together of bulk at most 1048576: NARROWER than '..Said'. Prove '..Said' where nothing that the law and all that it calls make is longer than what came in: it says more and counts as full. Else prove '..UptoSaid'. A law counts once. -/
mutual
def uptoBulk {H : Type} : DataW H → Nat
  | .lit (.string bytes) => bytes.length + 1
  | .lit _ => 1
  | .nil => 1
  | .ptr d => uptoBulk d + 1
  | .slice elems spare => uptoBulkAll elems + uptoBulkAll spare + 1
  | .agg parts => uptoBulkAll parts + 1
  | .iface _ d => uptoBulk d + 1
  | .map entries => uptoBulkEntries entries + 1
  | .held _ => 1
def uptoBulkAll {H : Type} : List (DataW H) → Nat
  | [] => 0
  | d :: r => uptoBulk d + uptoBulkAll r
def uptoBulkEntries {H : Type} : List (Lit × DataW H) → Nat
  | [] => 0
  | x :: r => uptoBulkEntry x + uptoBulkEntries r
def uptoBulkEntry {H : Type} : Lit × DataW H → Nat
  | (.string bytes, d) => bytes.length + uptoBulk d + 1
  | (_, d) => uptoBulk d + 1
 end
def uptoSmall : (H : Type) → List (DataW H) → Bool := fun _ ds => decide (uptoBulkAll ds ≤ 1048576)
def OpenSpec.upto (s : _root_.Go.ChangeSpec) : _root_.Go.OpenSpec := { _root_.Go.OpenSpec.ofChange s with cond := some uptoSmall }

/-- 'laws.FnExactTurnRow', WHERE WHAT IT READS IS OF BULK AT MOST 1048576: true; the input reads as it did. -/
def fnExactTurnRowUptoRow : OpenClaim := { program := "ytkaojpcpfbbicaa", sum := "15fb2d839d043b4c57b53d24d46dfb90543218ca28659e6e2d08329780c2f61c", func := "loop.example/g03302/laws.FnExactTurnRow", spec := "fnExactTurnRow", apart := false, narrowed := true }
def FnExactTurnRowUptoSaid : Prop := fnExactTurnRowUptoRow.holds Try.pinned (OpenSpec.upto fnExactTurnRowSpec)

/-- 'laws.FnExactReadPosition', WHERE WHAT IT READS IS OF BULK AT MOST 1048576: true; the input reads as it did. -/
def fnExactReadPositionUptoRow : OpenClaim := { program := "ytkaojpcpfbbicaa", sum := "15fb2d839d043b4c57b53d24d46dfb90543218ca28659e6e2d08329780c2f61c", func := "loop.example/g03302/laws.FnExactReadPosition", spec := "fnExactReadPosition", apart := false, narrowed := true }
def FnExactReadPositionUptoSaid : Prop := fnExactReadPositionUptoRow.holds Try.pinned (OpenSpec.upto fnExactReadPositionSpec)

/-- 'laws.FnExactRowLeast', WHERE WHAT IT READS IS OF BULK AT MOST 1048576: true; the input reads as it did. -/
def fnExactRowLeastUptoRow : OpenClaim := { program := "ytkaojpcpfbbicaa", sum := "15fb2d839d043b4c57b53d24d46dfb90543218ca28659e6e2d08329780c2f61c", func := "loop.example/g03302/laws.FnExactRowLeast", spec := "fnExactRowLeast", inPlace := ["internal/bytealg.CountString", "internal/bytealg.IndexByteString", "internal/bytealg.IndexString"], recurses := true, named := ["internal/bytealg.MaxLen"], apart := false, narrowed := true }
def FnExactRowLeastUptoSaid : Prop := fnExactRowLeastUptoRow.holds Try.pinned (OpenSpec.upto fnExactRowLeastSpec)

/-- 'laws.FnExactIsSingleRow', WHERE WHAT IT READS IS OF BULK AT MOST 1048576: true; the input reads as it did. -/
def fnExactIsSingleRowUptoRow : OpenClaim := { program := "ytkaojpcpfbbicaa", sum := "15fb2d839d043b4c57b53d24d46dfb90543218ca28659e6e2d08329780c2f61c", func := "loop.example/g03302/laws.FnExactIsSingleRow", spec := "fnExactIsSingleRow", inPlace := ["internal/bytealg.CountString", "internal/bytealg.IndexByteString", "internal/bytealg.IndexString"], recurses := true, named := ["internal/bytealg.MaxLen"], apart := false, narrowed := true }
def FnExactIsSingleRowUptoSaid : Prop := fnExactIsSingleRowUptoRow.holds Try.pinned (OpenSpec.upto fnExactIsSingleRowSpec)

/-- 'laws.FnExactCountSingleRows', WHERE WHAT IT READS IS OF BULK AT MOST 1048576: true; the input reads as it did. -/
def fnExactCountSingleRowsUptoRow : OpenClaim := { program := "ytkaojpcpfbbicaa", sum := "15fb2d839d043b4c57b53d24d46dfb90543218ca28659e6e2d08329780c2f61c", func := "loop.example/g03302/laws.FnExactCountSingleRows", spec := "fnExactCountSingleRows", inPlace := ["internal/bytealg.CountString", "internal/bytealg.IndexByteString", "internal/bytealg.IndexString"], recurses := true, named := ["internal/bytealg.MaxLen"], apart := false, narrowed := true }
def FnExactCountSingleRowsUptoSaid : Prop := fnExactCountSingleRowsUptoRow.holds Try.pinned (OpenSpec.upto fnExactCountSingleRowsSpec)

end Rows
end Go.Proofs.Ytkaojpcpfbbicaa
