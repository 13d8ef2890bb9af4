/-
  DERIVED. GIVEN WITH THE SEED: THE CARDS: each row of YtgcdopmidmelfaaDoorRows.lean that lists a variable, with what it lists TIED to the program's text (the seventh form; the later family's looks); each row that meets fmt, with fmt's text TOLD by the authors' own Lean function (tested against real Go, not proved from fmt's source: count such statements apart). THE CARD IS WHAT COUNTS. Prove the row's statement (the work); the ties are given (YtgcdopmidmelfaaDoorTie.lean); close each card by the builder's one call (the guide's Derived/Test/ToyasCard.lean, 'card_holds'). Laid BY PROGRAM, IN A SANDBOX (cutbox-door.mjs). By AI agents, Wed Nov 11 2026. No macro, syntax, notation, axiom, sorry.
-/
import Derived.Test.YtgcdopmidmelfaaDoorRows
import GoSem.ClaimSeven
namespace Go.Proofs.YtgcdopmidmelfaaDoor
namespace Rows

/-- THE TIED CARD OF 'laws.FnExactKeyValid'. -/
def fnExactKeyValidCard : Claim7 := { stood := { row := fnExactKeyValidRow, standIns := [], harness := (true, "45dbcdf0c27e1dff471456a63e7575d1fe7870c7b0d069f3c5958bffb0fd58ff"), looks := true }, kinds := [], alts := [], laidByText := true, laidKinds := [.data, .data, .pinned, .pinned], laidTests := true, laidLooks := .later }
def FnExactKeyValidCardSaid : Prop := Claim7.holds Tryd.pinned (.plain (OpenSpec.ofChange fnExactKeyValidSpec)) fnExactKeyValidCard

/-- THE TIED CARD OF 'laws.FnExactKeyFormat'. -/
def fnExactKeyFormatCard : Claim7 := { stood := { row := fnExactKeyFormatRow, standIns := [], harness := (true, "45dbcdf0c27e1dff471456a63e7575d1fe7870c7b0d069f3c5958bffb0fd58ff"), looks := true }, kinds := [], alts := [], laidByText := true, laidKinds := [.data, .data, .data, .data, .data, .pinned, .pinned], laidTests := true, laidLooks := .later }
def FnExactKeyFormatCardSaid : Prop := Claim7.holds Tryd.pinned (.plain (OpenSpec.ofChange fnExactKeyFormatSpec)) fnExactKeyFormatCard

/-- THE SECOND FORM's CARD OF 'laws.FnExactKeyValid'. -/
def fnExactKeyValidUptoCard : Claim7 := { stood := { row := fnExactKeyValidUptoRow, standIns := [], harness := (true, "45dbcdf0c27e1dff471456a63e7575d1fe7870c7b0d069f3c5958bffb0fd58ff"), looks := true }, kinds := [], alts := [], laidByText := true, laidKinds := [.data, .data, .pinned, .pinned], laidTests := true, laidLooks := .later }
def FnExactKeyValidUptoCardSaid : Prop := Claim7.holds Tryd.pinned (.plain (OpenSpec.upto fnExactKeyValidSpec)) fnExactKeyValidUptoCard

/-- THE SECOND FORM's CARD OF 'laws.FnExactKeyFormat'. -/
def fnExactKeyFormatUptoCard : Claim7 := { stood := { row := fnExactKeyFormatUptoRow, standIns := [], harness := (true, "45dbcdf0c27e1dff471456a63e7575d1fe7870c7b0d069f3c5958bffb0fd58ff"), looks := true }, kinds := [], alts := [], laidByText := true, laidKinds := [.data, .data, .data, .data, .data, .pinned, .pinned], laidTests := true, laidLooks := .later }
def FnExactKeyFormatUptoCardSaid : Prop := Claim7.holds Tryd.pinned (.plain (OpenSpec.upto fnExactKeyFormatSpec)) fnExactKeyFormatUptoCard
end Rows
end Go.Proofs.YtgcdopmidmelfaaDoor
