/-
  DERIVED. GIVEN WITH THE SEED: THE CARDS: each row of YtjgelgjllhjlcaaDoorRows.lean that lists a variable, with what it lists TIED to the program's text (the seventh form; the later family's looks); each row that meets fmt, with fmt's text TOLD by the authors' own Lean function (tested against real Go, not proved from fmt's source: count such statements apart). THE CARD IS WHAT COUNTS. Prove the row's statement (the work); the ties are given (YtjgelgjllhjlcaaDoorTie.lean); close each card by the builder's one call (the guide's Derived/Test/ToyasCard.lean, 'card_holds'). Laid BY PROGRAM, IN A SANDBOX (cutbox-door.mjs). By AI agents, Wed Nov 11 2026. No macro, syntax, notation, axiom, sorry.
-/
import Derived.Test.YtjgelgjllhjlcaaDoorRows
import GoSem.ClaimSeven
namespace Go.Proofs.YtjgelgjllhjlcaaDoor
namespace Rows

/-- THE TIED CARD OF 'laws.FnExactFlagsText'. -/
def fnExactFlagsTextCard : Claim7 := { stood := { row := fnExactFlagsTextRow, standIns := [], harness := (true, "c364dd27328d5cfd5135f69f7ad4aa725a6cf531718ab46d4a557cd4ca602045"), looks := false }, kinds := [], alts := [], laidByText := true, laidKinds := [.data], laidTests := true, laidLooks := .later }
def FnExactFlagsTextCardSaid : Prop := Claim7.holds Tryd.pinned (.plain (OpenSpec.ofChange fnExactFlagsTextSpec)) fnExactFlagsTextCard

/-- THE TIED CARD OF 'laws.FnFlagsText'. -/
def fnFlagsTextCard : Claim7 := { stood := { row := fnFlagsTextRow, standIns := [], harness := (true, "c364dd27328d5cfd5135f69f7ad4aa725a6cf531718ab46d4a557cd4ca602045"), looks := false }, kinds := [], alts := [], laidByText := true, laidKinds := [.data], laidTests := true, laidLooks := .later }
def FnFlagsTextCardSaid : Prop := Claim7.holds Tryd.pinned (.plain (OpenSpec.ofChange fnFlagsTextSpec)) fnFlagsTextCard

/-- THE TIED CARD OF 'laws.FnHaveSelf'. -/
def fnHaveSelfCard : Claim7 := { stood := { row := fnHaveSelfRow, standIns := [], harness := (true, "c364dd27328d5cfd5135f69f7ad4aa725a6cf531718ab46d4a557cd4ca602045"), looks := false }, kinds := [], alts := [], laidByText := true, laidKinds := [.data], laidTests := true, laidLooks := .later }
def FnHaveSelfCardSaid : Prop := Claim7.holds Tryd.pinned (.plain (OpenSpec.ofChange fnHaveSelfSpec)) fnHaveSelfCard

/-- THE TIED CARD OF 'laws.FnChangeBad'. -/
def fnChangeBadCard : Claim7 := { stood := { row := fnChangeBadRow, standIns := [], harness := (true, "c364dd27328d5cfd5135f69f7ad4aa725a6cf531718ab46d4a557cd4ca602045"), looks := false }, kinds := [], alts := [], laidByText := true, laidKinds := [.data], laidTests := true, laidLooks := .later }
def FnChangeBadCardSaid : Prop := Claim7.holds Tryd.pinned (.plain (OpenSpec.ofChange fnChangeBadSpec)) fnChangeBadCard

/-- THE SECOND FORM's CARD OF 'laws.FnExactFlagsText'. -/
def fnExactFlagsTextUptoCard : Claim7 := { stood := { row := fnExactFlagsTextUptoRow, standIns := [], harness := (true, "c364dd27328d5cfd5135f69f7ad4aa725a6cf531718ab46d4a557cd4ca602045"), looks := false }, kinds := [], alts := [], laidByText := true, laidKinds := [.data], laidTests := true, laidLooks := .later }
def FnExactFlagsTextUptoCardSaid : Prop := Claim7.holds Tryd.pinned (.plain (OpenSpec.upto fnExactFlagsTextSpec)) fnExactFlagsTextUptoCard

/-- THE SECOND FORM's CARD OF 'laws.FnFlagsText'. -/
def fnFlagsTextUptoCard : Claim7 := { stood := { row := fnFlagsTextUptoRow, standIns := [], harness := (true, "c364dd27328d5cfd5135f69f7ad4aa725a6cf531718ab46d4a557cd4ca602045"), looks := false }, kinds := [], alts := [], laidByText := true, laidKinds := [.data], laidTests := true, laidLooks := .later }
def FnFlagsTextUptoCardSaid : Prop := Claim7.holds Tryd.pinned (.plain (OpenSpec.upto fnFlagsTextSpec)) fnFlagsTextUptoCard

/-- THE SECOND FORM's CARD OF 'laws.FnHaveSelf'. -/
def fnHaveSelfUptoCard : Claim7 := { stood := { row := fnHaveSelfUptoRow, standIns := [], harness := (true, "c364dd27328d5cfd5135f69f7ad4aa725a6cf531718ab46d4a557cd4ca602045"), looks := false }, kinds := [], alts := [], laidByText := true, laidKinds := [.data], laidTests := true, laidLooks := .later }
def FnHaveSelfUptoCardSaid : Prop := Claim7.holds Tryd.pinned (.plain (OpenSpec.upto fnHaveSelfSpec)) fnHaveSelfUptoCard

/-- THE SECOND FORM's CARD OF 'laws.FnChangeBad'. -/
def fnChangeBadUptoCard : Claim7 := { stood := { row := fnChangeBadUptoRow, standIns := [], harness := (true, "c364dd27328d5cfd5135f69f7ad4aa725a6cf531718ab46d4a557cd4ca602045"), looks := false }, kinds := [], alts := [], laidByText := true, laidKinds := [.data], laidTests := true, laidLooks := .later }
def FnChangeBadUptoCardSaid : Prop := Claim7.holds Tryd.pinned (.plain (OpenSpec.upto fnChangeBadSpec)) fnChangeBadUptoCard
end Rows
end Go.Proofs.YtjgelgjllhjlcaaDoor
