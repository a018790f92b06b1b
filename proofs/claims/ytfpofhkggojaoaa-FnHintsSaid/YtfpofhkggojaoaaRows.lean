/-
  No cell of these rows narrows 'for every input' (looked for: loops, veiled, ifaces, maps, wideKeys, modest, calm, conditions, laid).
  DERIVED. THE GIVEN ROWS OF THIS SEAT. 8 by the template 'for every input the law returns true; each argument reads behind the call as it read before'; 0 by the template 'total and deterministic' (their statements: YtfpofhkggojaoaaTotals.lean).
  GIVEN WITH THE SEED: the statements are not yours to turn. If you find one false, say at which input.
  Laid BY PROGRAM, IN A SANDBOX (cutbox-rows.mjs): the forced cells as the released guide's own fill.sh prints them over the translation d478cae84ce69762… (all of the seat's roots in one cut). By AI agents, Wed Nov 11 2026. No macro, syntax, notation, axiom, sorry.
-/
import Derived.Test.YtfpofhkggojaoaaChecked
import GoSem.Claim
import GoSem.ClaimJoined
import GoSem.ClaimMapViews
import Derived.JoinedTies
import Derived.KernelRfl
namespace Go.Proofs.Ytfpofhkggojaoaa
/- THE CELL 'sum', in the pinned program and in every row, IS THE sha256 OF THE DUMP (.gsa) THAT YtfpofhkggojaoaaProg.lean LOADS. Nothing in Lean hashes anything: it is a label: what it is worth is what the hold of that sum in a sandbox is worth. -/
noncomputable def Try.pinned : Pinned := { name := "ytfpofhkggojaoaa", sum := "d478cae84ce697624bdb1e6dbe6ecb4f332ac1d5f62c95a1a1af166d7d890d3d", checked := Try.checked }
namespace Rows
def none {H : Type} : Left H := { results := [], args := [] }

/-- 'laws.FnExactHasOneWay': WHATEVER THE INPUT: true; the input reads as it did. -/
def fnExactHasOneWaySpec : ChangeSpec := { name := "fnExactHasOneWay", fn := fun _ => fun
  | [d] => { results := [.lit (.bool true)], args := [d] }
  | _ => none }
def fnExactHasOneWayRow : OpenClaim := { program := "ytfpofhkggojaoaa", sum := "d478cae84ce697624bdb1e6dbe6ecb4f332ac1d5f62c95a1a1af166d7d890d3d", func := "loop.example/g03302/laws.FnExactHasOneWay", spec := "fnExactHasOneWay", recurses := true, apart := false }
def FnExactHasOneWaySaid : Prop := fnExactHasOneWayRow.holds Try.pinned (OpenSpec.ofChange fnExactHasOneWaySpec)

/-- ITS FALSE NEIGHBOUR: 'it returns false'. Refute it at one input. -/
def fnExactHasOneWayWrong : ChangeSpec := { name := "fnExactHasOneWay", fn := fun _ => fun
  | [d] => { results := [.lit (.bool false)], args := [d] }
  | _ => none }
def FnExactHasOneWayWrongFalsely : Prop := fnExactHasOneWayRow.holds Try.pinned (OpenSpec.ofChange fnExactHasOneWayWrong)

/-- 'laws.FnExactMakeClaim': WHATEVER THE INPUT: true; the input reads as it did. -/
def fnExactMakeClaimSpec : ChangeSpec := { name := "fnExactMakeClaim", fn := fun _ => fun
  | [d] => { results := [.lit (.bool true)], args := [d] }
  | _ => none }
def fnExactMakeClaimRow : OpenClaim := { program := "ytfpofhkggojaoaa", sum := "d478cae84ce697624bdb1e6dbe6ecb4f332ac1d5f62c95a1a1af166d7d890d3d", func := "loop.example/g03302/laws.FnExactMakeClaim", spec := "fnExactMakeClaim", apart := false }
def FnExactMakeClaimSaid : Prop := fnExactMakeClaimRow.holds Try.pinned (OpenSpec.ofChange fnExactMakeClaimSpec)

/-- ITS FALSE NEIGHBOUR: 'it returns false'. Refute it at one input. -/
def fnExactMakeClaimWrong : ChangeSpec := { name := "fnExactMakeClaim", fn := fun _ => fun
  | [d] => { results := [.lit (.bool false)], args := [d] }
  | _ => none }
def FnExactMakeClaimWrongFalsely : Prop := fnExactMakeClaimRow.holds Try.pinned (OpenSpec.ofChange fnExactMakeClaimWrong)

/-- 'laws.FnHints': WHATEVER THE INPUT: true; the input reads as it did. -/
def fnHintsSpec : ChangeSpec := { name := "fnHints", fn := fun _ => fun
  | [d] => { results := [.lit (.bool true)], args := [d] }
  | _ => none }
def fnHintsRow : OpenClaim := { program := "ytfpofhkggojaoaa", sum := "d478cae84ce697624bdb1e6dbe6ecb4f332ac1d5f62c95a1a1af166d7d890d3d", func := "loop.example/g03302/laws.FnHints", spec := "fnHints", apart := false }
def FnHintsSaid : Prop := fnHintsRow.holds Try.pinned (OpenSpec.ofChange fnHintsSpec)

/-- ITS FALSE NEIGHBOUR: 'it returns false'. Refute it at one input. -/
def fnHintsWrong : ChangeSpec := { name := "fnHints", fn := fun _ => fun
  | [d] => { results := [.lit (.bool false)], args := [d] }
  | _ => none }
def FnHintsWrongFalsely : Prop := fnHintsRow.holds Try.pinned (OpenSpec.ofChange fnHintsWrong)

/-- 'laws.FnScores': WHATEVER THE INPUT: true; the input reads as it did. -/
def fnScoresSpec : ChangeSpec := { name := "fnScores", fn := fun _ => fun
  | [d] => { results := [.lit (.bool true)], args := [d] }
  | _ => none }
def fnScoresRow : OpenClaim := { program := "ytfpofhkggojaoaa", sum := "d478cae84ce697624bdb1e6dbe6ecb4f332ac1d5f62c95a1a1af166d7d890d3d", func := "loop.example/g03302/laws.FnScores", spec := "fnScores", apart := false }
def FnScoresSaid : Prop := fnScoresRow.holds Try.pinned (OpenSpec.ofChange fnScoresSpec)

/-- ITS FALSE NEIGHBOUR: 'it returns false'. Refute it at one input. -/
def fnScoresWrong : ChangeSpec := { name := "fnScores", fn := fun _ => fun
  | [d] => { results := [.lit (.bool false)], args := [d] }
  | _ => none }
def FnScoresWrongFalsely : Prop := fnScoresRow.holds Try.pinned (OpenSpec.ofChange fnScoresWrong)

/-- 'laws.FnMade': WHATEVER THE INPUT: true; the input reads as it did. -/
def fnMadeSpec : ChangeSpec := { name := "fnMade", fn := fun _ => fun
  | [d] => { results := [.lit (.bool true)], args := [d] }
  | _ => none }
def fnMadeRow : OpenClaim := { program := "ytfpofhkggojaoaa", sum := "d478cae84ce697624bdb1e6dbe6ecb4f332ac1d5f62c95a1a1af166d7d890d3d", func := "loop.example/g03302/laws.FnMade", spec := "fnMade", apart := false }
def FnMadeSaid : Prop := fnMadeRow.holds Try.pinned (OpenSpec.ofChange fnMadeSpec)

/-- ITS FALSE NEIGHBOUR: 'it returns false'. Refute it at one input. -/
def fnMadeWrong : ChangeSpec := { name := "fnMade", fn := fun _ => fun
  | [d] => { results := [.lit (.bool false)], args := [d] }
  | _ => none }
def FnMadeWrongFalsely : Prop := fnMadeRow.holds Try.pinned (OpenSpec.ofChange fnMadeWrong)

/-- 'laws.FnContests': WHATEVER THE INPUT: true; the input reads as it did. -/
def fnContestsSpec : ChangeSpec := { name := "fnContests", fn := fun _ => fun
  | [d] => { results := [.lit (.bool true)], args := [d] }
  | _ => none }
def fnContestsRow : OpenClaim := { program := "ytfpofhkggojaoaa", sum := "d478cae84ce697624bdb1e6dbe6ecb4f332ac1d5f62c95a1a1af166d7d890d3d", func := "loop.example/g03302/laws.FnContests", spec := "fnContests", unfollowed := true, recurses := true, apart := false }
def FnContestsSaid : Prop := fnContestsRow.holds Try.pinned (OpenSpec.ofChange fnContestsSpec)

/-- ITS FALSE NEIGHBOUR: 'it returns false'. Refute it at one input. -/
def fnContestsWrong : ChangeSpec := { name := "fnContests", fn := fun _ => fun
  | [d] => { results := [.lit (.bool false)], args := [d] }
  | _ => none }
def FnContestsWrongFalsely : Prop := fnContestsRow.holds Try.pinned (OpenSpec.ofChange fnContestsWrong)

/-- 'laws.FnRows': WHATEVER THE INPUT: true; the input reads as it did. -/
def fnRowsSpec : ChangeSpec := { name := "fnRows", fn := fun _ => fun
  | [d] => { results := [.lit (.bool true)], args := [d] }
  | _ => none }
def fnRowsRow : OpenClaim := { program := "ytfpofhkggojaoaa", sum := "d478cae84ce697624bdb1e6dbe6ecb4f332ac1d5f62c95a1a1af166d7d890d3d", func := "loop.example/g03302/laws.FnRows", spec := "fnRows", inPlace := ["internal/bytealg.CountString", "internal/bytealg.IndexByteString", "internal/bytealg.IndexString"], recurses := true, named := ["internal/bytealg.MaxLen"], apart := false }
def FnRowsSaid : Prop := fnRowsRow.holds Try.pinned (OpenSpec.ofChange fnRowsSpec)

/-- ITS FALSE NEIGHBOUR: 'it returns false'. Refute it at one input. -/
def fnRowsWrong : ChangeSpec := { name := "fnRows", fn := fun _ => fun
  | [d] => { results := [.lit (.bool false)], args := [d] }
  | _ => none }
def FnRowsWrongFalsely : Prop := fnRowsRow.holds Try.pinned (OpenSpec.ofChange fnRowsWrong)

/-- 'laws.FnPuzzles': WHATEVER THE INPUT: true; the input reads as it did. -/
def fnPuzzlesSpec : ChangeSpec := { name := "fnPuzzles", fn := fun _ => fun
  | [d] => { results := [.lit (.bool true)], args := [d] }
  | _ => none }
def fnPuzzlesRow : OpenClaim := { program := "ytfpofhkggojaoaa", sum := "d478cae84ce697624bdb1e6dbe6ecb4f332ac1d5f62c95a1a1af166d7d890d3d", func := "loop.example/g03302/laws.FnPuzzles", spec := "fnPuzzles", recurses := true, apart := false }
def FnPuzzlesSaid : Prop := fnPuzzlesRow.holds Try.pinned (OpenSpec.ofChange fnPuzzlesSpec)

/-- ITS FALSE NEIGHBOUR: 'it returns false'. Refute it at one input. -/
def fnPuzzlesWrong : ChangeSpec := { name := "fnPuzzles", fn := fun _ => fun
  | [d] => { results := [.lit (.bool false)], args := [d] }
  | _ => none }
def FnPuzzlesWrongFalsely : Prop := fnPuzzlesRow.holds Try.pinned (OpenSpec.ofChange fnPuzzlesWrong)

/- THE SECOND FORM. 'bulk': how many values and letters a reading holds, each counted each time it is reached (what is shared counts as often as it is met; a slice's spare places count too). A statement '..UptoSaid' is the law's where the arguments, and the package variables that the reading takes, are together of bulk at most 1048576: NARROWER than '..Said'. Prove '..Said' where nothing that the law and all that it calls make is longer than what came in: it says more and counts as full. Else prove '..UptoSaid'. A law counts once. -/
mutual
def uptoBulk {H : Type} : DataW H → Nat
  | .lit (.string bytes) => bytes.length + 1
  | .lit _ => 1
  | .nil => 1
  | .ptr d => uptoBulk d + 1
  | .slice elems spare => uptoBulkAll elems + uptoBulkAll spare + 1
  | .agg parts => uptoBulkAll parts + 1
  | .iface _ d => uptoBulk d + 1
  | .map entries => uptoBulkEntries entries + 1
  | .held _ => 1
def uptoBulkAll {H : Type} : List (DataW H) → Nat
  | [] => 0
  | d :: r => uptoBulk d + uptoBulkAll r
def uptoBulkEntries {H : Type} : List (Lit × DataW H) → Nat
  | [] => 0
  | x :: r => uptoBulkEntry x + uptoBulkEntries r
def uptoBulkEntry {H : Type} : Lit × DataW H → Nat
  | (.string bytes, d) => bytes.length + uptoBulk d + 1
  | (_, d) => uptoBulk d + 1
 end
def uptoSmall : (H : Type) → List (DataW H) → Bool := fun _ ds => decide (uptoBulkAll ds ≤ 1048576)
def OpenSpec.upto (s : _root_.Go.ChangeSpec) : _root_.Go.OpenSpec := { _root_.Go.OpenSpec.ofChange s with cond := some uptoSmall }

/-- 'laws.FnExactHasOneWay', WHERE WHAT IT READS IS OF BULK AT MOST 1048576: true; the input reads as it did. -/
def fnExactHasOneWayUptoRow : OpenClaim := { program := "ytfpofhkggojaoaa", sum := "d478cae84ce697624bdb1e6dbe6ecb4f332ac1d5f62c95a1a1af166d7d890d3d", func := "loop.example/g03302/laws.FnExactHasOneWay", spec := "fnExactHasOneWay", recurses := true, apart := false, narrowed := true }
def FnExactHasOneWayUptoSaid : Prop := fnExactHasOneWayUptoRow.holds Try.pinned (OpenSpec.upto fnExactHasOneWaySpec)

/-- 'laws.FnExactMakeClaim', WHERE WHAT IT READS IS OF BULK AT MOST 1048576: true; the input reads as it did. -/
def fnExactMakeClaimUptoRow : OpenClaim := { program := "ytfpofhkggojaoaa", sum := "d478cae84ce697624bdb1e6dbe6ecb4f332ac1d5f62c95a1a1af166d7d890d3d", func := "loop.example/g03302/laws.FnExactMakeClaim", spec := "fnExactMakeClaim", apart := false, narrowed := true }
def FnExactMakeClaimUptoSaid : Prop := fnExactMakeClaimUptoRow.holds Try.pinned (OpenSpec.upto fnExactMakeClaimSpec)

/-- 'laws.FnHints', WHERE WHAT IT READS IS OF BULK AT MOST 1048576: true; the input reads as it did. -/
def fnHintsUptoRow : OpenClaim := { program := "ytfpofhkggojaoaa", sum := "d478cae84ce697624bdb1e6dbe6ecb4f332ac1d5f62c95a1a1af166d7d890d3d", func := "loop.example/g03302/laws.FnHints", spec := "fnHints", apart := false, narrowed := true }
def FnHintsUptoSaid : Prop := fnHintsUptoRow.holds Try.pinned (OpenSpec.upto fnHintsSpec)

/-- 'laws.FnScores', WHERE WHAT IT READS IS OF BULK AT MOST 1048576: true; the input reads as it did. -/
def fnScoresUptoRow : OpenClaim := { program := "ytfpofhkggojaoaa", sum := "d478cae84ce697624bdb1e6dbe6ecb4f332ac1d5f62c95a1a1af166d7d890d3d", func := "loop.example/g03302/laws.FnScores", spec := "fnScores", apart := false, narrowed := true }
def FnScoresUptoSaid : Prop := fnScoresUptoRow.holds Try.pinned (OpenSpec.upto fnScoresSpec)

/-- 'laws.FnMade', WHERE WHAT IT READS IS OF BULK AT MOST 1048576: true; the input reads as it did. -/
def fnMadeUptoRow : OpenClaim := { program := "ytfpofhkggojaoaa", sum := "d478cae84ce697624bdb1e6dbe6ecb4f332ac1d5f62c95a1a1af166d7d890d3d", func := "loop.example/g03302/laws.FnMade", spec := "fnMade", apart := false, narrowed := true }
def FnMadeUptoSaid : Prop := fnMadeUptoRow.holds Try.pinned (OpenSpec.upto fnMadeSpec)

/-- 'laws.FnContests', WHERE WHAT IT READS IS OF BULK AT MOST 1048576: true; the input reads as it did. -/
def fnContestsUptoRow : OpenClaim := { program := "ytfpofhkggojaoaa", sum := "d478cae84ce697624bdb1e6dbe6ecb4f332ac1d5f62c95a1a1af166d7d890d3d", func := "loop.example/g03302/laws.FnContests", spec := "fnContests", unfollowed := true, recurses := true, apart := false, narrowed := true }
def FnContestsUptoSaid : Prop := fnContestsUptoRow.holds Try.pinned (OpenSpec.upto fnContestsSpec)

/-- 'laws.FnRows', WHERE WHAT IT READS IS OF BULK AT MOST 1048576: true; the input reads as it did. -/
def fnRowsUptoRow : OpenClaim := { program := "ytfpofhkggojaoaa", sum := "d478cae84ce697624bdb1e6dbe6ecb4f332ac1d5f62c95a1a1af166d7d890d3d", func := "loop.example/g03302/laws.FnRows", spec := "fnRows", inPlace := ["internal/bytealg.CountString", "internal/bytealg.IndexByteString", "internal/bytealg.IndexString"], recurses := true, named := ["internal/bytealg.MaxLen"], apart := false, narrowed := true }
def FnRowsUptoSaid : Prop := fnRowsUptoRow.holds Try.pinned (OpenSpec.upto fnRowsSpec)

/-- 'laws.FnPuzzles', WHERE WHAT IT READS IS OF BULK AT MOST 1048576: true; the input reads as it did. -/
def fnPuzzlesUptoRow : OpenClaim := { program := "ytfpofhkggojaoaa", sum := "d478cae84ce697624bdb1e6dbe6ecb4f332ac1d5f62c95a1a1af166d7d890d3d", func := "loop.example/g03302/laws.FnPuzzles", spec := "fnPuzzles", recurses := true, apart := false, narrowed := true }
def FnPuzzlesUptoSaid : Prop := fnPuzzlesUptoRow.holds Try.pinned (OpenSpec.upto fnPuzzlesSpec)

end Rows
end Go.Proofs.Ytfpofhkggojaoaa
