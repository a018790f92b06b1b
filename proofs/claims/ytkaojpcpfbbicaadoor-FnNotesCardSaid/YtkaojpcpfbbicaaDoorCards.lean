/-
  DERIVED. GIVEN WITH THE SEED: THE CARDS: each row of YtkaojpcpfbbicaaDoorRows.lean that lists a variable, with what it lists TIED to the program's text (the seventh form; the later family's looks); each row that meets fmt, with fmt's text TOLD by the authors' own Lean function (tested against real Go, not proved from fmt's source: count such statements apart). THE CARD IS WHAT COUNTS. Prove the row's statement (the work); the ties are given (YtkaojpcpfbbicaaDoorTie.lean); close each card by the builder's one call (the guide's Derived/Test/ToyasCard.lean, 'card_holds'). Laid BY PROGRAM, IN A SANDBOX (cutbox-door.mjs). By AI agents, Wed Nov 11 2026. No macro, syntax, notation, axiom, sorry.
-/
import Derived.Test.YtkaojpcpfbbicaaDoorRows
import GoSem.ClaimSeven
namespace Go.Proofs.YtkaojpcpfbbicaaDoor
namespace Rows

/-- THE TIED CARD OF 'laws.FnExactTimeText'. -/
def fnExactTimeTextCard : Claim7 := { stood := { row := fnExactTimeTextRow, standIns := [], harness := (true, "5828c335e3e33a8983c50da5d50c33a2dc7594e3330d9515997873203da2638e"), looks := false }, kinds := [], alts := [], laidByText := true, laidKinds := [.data, .data, .data], laidTests := true, laidLooks := .later }
def FnExactTimeTextCardSaid : Prop := Claim7.holds Tryd.pinned (.plain (OpenSpec.ofChange fnExactTimeTextSpec)) fnExactTimeTextCard

/-- THE TIED CARD OF 'laws.FnExactJumpText'. -/
def fnExactJumpTextCard : Claim7 := { stood := { row := fnExactJumpTextRow, standIns := [], harness := (true, "5828c335e3e33a8983c50da5d50c33a2dc7594e3330d9515997873203da2638e"), looks := false }, kinds := [], alts := [], laidByText := true, laidKinds := [.data, .data, .data], laidTests := true, laidLooks := .later }
def FnExactJumpTextCardSaid : Prop := Claim7.holds Tryd.pinned (.plain (OpenSpec.ofChange fnExactJumpTextSpec)) fnExactJumpTextCard

/-- THE TIED CARD OF 'laws.FnExactGameText'. -/
def fnExactGameTextCard : Claim7 := { stood := { row := fnExactGameTextRow, standIns := [], harness := (true, "5828c335e3e33a8983c50da5d50c33a2dc7594e3330d9515997873203da2638e"), looks := false }, kinds := [], alts := [], laidByText := true, laidKinds := [.data, .data, .data], laidTests := true, laidLooks := .later }
def FnExactGameTextCardSaid : Prop := Claim7.holds Tryd.pinned (.plain (OpenSpec.ofChange fnExactGameTextSpec)) fnExactGameTextCard

/-- THE TIED CARD OF 'laws.FnExactReadJump'. -/
def fnExactReadJumpCard : Claim7 := { stood := { row := fnExactReadJumpRow, standIns := [], harness := (true, "5828c335e3e33a8983c50da5d50c33a2dc7594e3330d9515997873203da2638e"), looks := false }, kinds := [], alts := [], laidByText := true, laidKinds := [.data, .data, .data], laidTests := true, laidLooks := .later }
def FnExactReadJumpCardSaid : Prop := Claim7.holds Tryd.pinned (.plain (OpenSpec.ofChange fnExactReadJumpSpec)) fnExactReadJumpCard

/-- THE TIED CARD OF 'laws.FnExactReadGame'. -/
def fnExactReadGameCard : Claim7 := { stood := { row := fnExactReadGameRow, standIns := [], harness := (true, "5828c335e3e33a8983c50da5d50c33a2dc7594e3330d9515997873203da2638e"), looks := false }, kinds := [], alts := [], laidByText := true, laidKinds := [.data, .data, .data, .data, .pinned], laidTests := true, laidLooks := .later }
def FnExactReadGameCardSaid : Prop := Claim7.holds Tryd.pinned (.plain (OpenSpec.ofChange fnExactReadGameSpec)) fnExactReadGameCard

/-- THE TIED CARD OF 'laws.FnClocks'. -/
def fnClocksCard : Claim7 := { stood := { row := fnClocksRow, standIns := [], harness := (true, "5828c335e3e33a8983c50da5d50c33a2dc7594e3330d9515997873203da2638e"), looks := false }, kinds := [], alts := [], laidByText := true, laidKinds := [.data, .data, .data], laidTests := true, laidLooks := .later }
def FnClocksCardSaid : Prop := Claim7.holds Tryd.pinned (.plain (OpenSpec.ofChange fnClocksSpec)) fnClocksCard

/-- THE TIED CARD OF 'laws.FnNotes'. -/
def fnNotesCard : Claim7 := { stood := { row := fnNotesRow, standIns := [], harness := (true, "5828c335e3e33a8983c50da5d50c33a2dc7594e3330d9515997873203da2638e"), looks := false }, kinds := [], alts := [], laidByText := true, laidKinds := [.data, .data, .data, .data, .pinned], laidTests := true, laidLooks := .later }
def FnNotesCardSaid : Prop := Claim7.holds Tryd.pinned (.plain (OpenSpec.ofChange fnNotesSpec)) fnNotesCard

/-- THE SECOND FORM's CARD OF 'laws.FnExactTimeText'. -/
def fnExactTimeTextUptoCard : Claim7 := { stood := { row := fnExactTimeTextUptoRow, standIns := [], harness := (true, "5828c335e3e33a8983c50da5d50c33a2dc7594e3330d9515997873203da2638e"), looks := false }, kinds := [], alts := [], laidByText := true, laidKinds := [.data, .data, .data], laidTests := true, laidLooks := .later }
def FnExactTimeTextUptoCardSaid : Prop := Claim7.holds Tryd.pinned (.plain (OpenSpec.upto fnExactTimeTextSpec)) fnExactTimeTextUptoCard

/-- THE SECOND FORM's CARD OF 'laws.FnExactJumpText'. -/
def fnExactJumpTextUptoCard : Claim7 := { stood := { row := fnExactJumpTextUptoRow, standIns := [], harness := (true, "5828c335e3e33a8983c50da5d50c33a2dc7594e3330d9515997873203da2638e"), looks := false }, kinds := [], alts := [], laidByText := true, laidKinds := [.data, .data, .data], laidTests := true, laidLooks := .later }
def FnExactJumpTextUptoCardSaid : Prop := Claim7.holds Tryd.pinned (.plain (OpenSpec.upto fnExactJumpTextSpec)) fnExactJumpTextUptoCard

/-- THE SECOND FORM's CARD OF 'laws.FnExactGameText'. -/
def fnExactGameTextUptoCard : Claim7 := { stood := { row := fnExactGameTextUptoRow, standIns := [], harness := (true, "5828c335e3e33a8983c50da5d50c33a2dc7594e3330d9515997873203da2638e"), looks := false }, kinds := [], alts := [], laidByText := true, laidKinds := [.data, .data, .data], laidTests := true, laidLooks := .later }
def FnExactGameTextUptoCardSaid : Prop := Claim7.holds Tryd.pinned (.plain (OpenSpec.upto fnExactGameTextSpec)) fnExactGameTextUptoCard

/-- THE SECOND FORM's CARD OF 'laws.FnExactReadJump'. -/
def fnExactReadJumpUptoCard : Claim7 := { stood := { row := fnExactReadJumpUptoRow, standIns := [], harness := (true, "5828c335e3e33a8983c50da5d50c33a2dc7594e3330d9515997873203da2638e"), looks := false }, kinds := [], alts := [], laidByText := true, laidKinds := [.data, .data, .data], laidTests := true, laidLooks := .later }
def FnExactReadJumpUptoCardSaid : Prop := Claim7.holds Tryd.pinned (.plain (OpenSpec.upto fnExactReadJumpSpec)) fnExactReadJumpUptoCard

/-- THE SECOND FORM's CARD OF 'laws.FnExactReadGame'. -/
def fnExactReadGameUptoCard : Claim7 := { stood := { row := fnExactReadGameUptoRow, standIns := [], harness := (true, "5828c335e3e33a8983c50da5d50c33a2dc7594e3330d9515997873203da2638e"), looks := false }, kinds := [], alts := [], laidByText := true, laidKinds := [.data, .data, .data, .data, .pinned], laidTests := true, laidLooks := .later }
def FnExactReadGameUptoCardSaid : Prop := Claim7.holds Tryd.pinned (.plain (OpenSpec.upto fnExactReadGameSpec)) fnExactReadGameUptoCard

/-- THE SECOND FORM's CARD OF 'laws.FnClocks'. -/
def fnClocksUptoCard : Claim7 := { stood := { row := fnClocksUptoRow, standIns := [], harness := (true, "5828c335e3e33a8983c50da5d50c33a2dc7594e3330d9515997873203da2638e"), looks := false }, kinds := [], alts := [], laidByText := true, laidKinds := [.data, .data, .data], laidTests := true, laidLooks := .later }
def FnClocksUptoCardSaid : Prop := Claim7.holds Tryd.pinned (.plain (OpenSpec.upto fnClocksSpec)) fnClocksUptoCard

/-- THE SECOND FORM's CARD OF 'laws.FnNotes'. -/
def fnNotesUptoCard : Claim7 := { stood := { row := fnNotesUptoRow, standIns := [], harness := (true, "5828c335e3e33a8983c50da5d50c33a2dc7594e3330d9515997873203da2638e"), looks := false }, kinds := [], alts := [], laidByText := true, laidKinds := [.data, .data, .data, .data, .pinned], laidTests := true, laidLooks := .later }
def FnNotesUptoCardSaid : Prop := Claim7.holds Tryd.pinned (.plain (OpenSpec.upto fnNotesSpec)) fnNotesUptoCard
end Rows
end Go.Proofs.YtkaojpcpfbbicaaDoor
