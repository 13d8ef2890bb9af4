/-
  DERIVED. GIVEN WITH THE SEED: THE CARDS: each row of YtieehpjdodbgoaaDoorRows.lean that lists a variable, with what it lists TIED to the program's text (the seventh form; the later family's looks); each row that meets fmt, with fmt's text TOLD by the authors' own Lean function (tested against real Go, not proved from fmt's source: count such statements apart). THE CARD IS WHAT COUNTS. Prove the row's statement (the work); the ties are given (YtieehpjdodbgoaaDoorTie.lean); close each card by the builder's one call (the guide's Derived/Test/ToyasCard.lean, 'card_holds'). Laid BY PROGRAM, IN A SANDBOX (cutbox-door.mjs). By AI agents, Wed Nov 11 2026. No macro, syntax, notation, axiom, sorry.
-/
import Derived.Test.YtieehpjdodbgoaaDoorRows
import GoSem.ClaimSeven
namespace Go.Proofs.YtieehpjdodbgoaaDoor
namespace Rows

/-- THE TIED CARD OF 'laws.FnKeyFields'. -/
def fnKeyFieldsCard : Claim7 := { stood := { row := fnKeyFieldsRow, standIns := [], harness := (true, "b3881480b28ba035772efb60e1a7b2980aab3d929f818e960d7898d9c7823d60"), looks := true }, kinds := [], alts := [], laidByText := true, laidKinds := [.data, .data, .pinned, .pinned], laidTests := true, laidLooks := .later }
def FnKeyFieldsCardSaid : Prop := Claim7.holds Tryd.pinned (.plain (OpenSpec.ofChange fnKeyFieldsSpec)) fnKeyFieldsCard

/-- THE TIED CARD OF 'laws.FnKeyNodes'. -/
def fnKeyNodesCard : Claim7 := { stood := { row := fnKeyNodesRow, standIns := [], harness := (true, "b3881480b28ba035772efb60e1a7b2980aab3d929f818e960d7898d9c7823d60"), looks := true }, kinds := [], alts := [], laidByText := true, laidKinds := [.data, .data, .pinned, .pinned], laidTests := true, laidLooks := .later }
def FnKeyNodesCardSaid : Prop := Claim7.holds Tryd.pinned (.plain (OpenSpec.ofChange fnKeyNodesSpec)) fnKeyNodesCard

/-- THE TIED CARD OF 'laws.FnKeyParts'. -/
def fnKeyPartsCard : Claim7 := { stood := { row := fnKeyPartsRow, standIns := [], harness := (true, "b3881480b28ba035772efb60e1a7b2980aab3d929f818e960d7898d9c7823d60"), looks := true }, kinds := [], alts := [], laidByText := true, laidKinds := [.data, .data, .pinned, .pinned], laidTests := true, laidLooks := .later }
def FnKeyPartsCardSaid : Prop := Claim7.holds Tryd.pinned (.plain (OpenSpec.ofChange fnKeyPartsSpec)) fnKeyPartsCard

/-- THE TIED CARD OF 'laws.FnExactKeyValid'. -/
def fnExactKeyValidCard : Claim7 := { stood := { row := fnExactKeyValidRow, standIns := [], harness := (true, "b3881480b28ba035772efb60e1a7b2980aab3d929f818e960d7898d9c7823d60"), looks := true }, kinds := [], alts := [], laidByText := true, laidKinds := [.data, .data, .pinned, .pinned], laidTests := true, laidLooks := .later }
def FnExactKeyValidCardSaid : Prop := Claim7.holds Tryd.pinned (.plain (OpenSpec.ofChange fnExactKeyValidSpec)) fnExactKeyValidCard

/-- THE TIED CARD OF 'laws.FnExactKeyFormat'. -/
def fnExactKeyFormatCard : Claim7 := { stood := { row := fnExactKeyFormatRow, standIns := [], harness := (true, "b3881480b28ba035772efb60e1a7b2980aab3d929f818e960d7898d9c7823d60"), looks := true }, kinds := [], alts := [], laidByText := true, laidKinds := [.data, .data, .data, .data, .data, .pinned, .pinned], laidTests := true, laidLooks := .later }
def FnExactKeyFormatCardSaid : Prop := Claim7.holds Tryd.pinned (.plain (OpenSpec.ofChange fnExactKeyFormatSpec)) fnExactKeyFormatCard

/-- THE SECOND FORM's CARD OF 'laws.FnKeyFields'. -/
def fnKeyFieldsUptoCard : Claim7 := { stood := { row := fnKeyFieldsUptoRow, standIns := [], harness := (true, "b3881480b28ba035772efb60e1a7b2980aab3d929f818e960d7898d9c7823d60"), looks := true }, kinds := [], alts := [], laidByText := true, laidKinds := [.data, .data, .pinned, .pinned], laidTests := true, laidLooks := .later }
def FnKeyFieldsUptoCardSaid : Prop := Claim7.holds Tryd.pinned (.plain (OpenSpec.upto fnKeyFieldsSpec)) fnKeyFieldsUptoCard

/-- THE SECOND FORM's CARD OF 'laws.FnKeyNodes'. -/
def fnKeyNodesUptoCard : Claim7 := { stood := { row := fnKeyNodesUptoRow, standIns := [], harness := (true, "b3881480b28ba035772efb60e1a7b2980aab3d929f818e960d7898d9c7823d60"), looks := true }, kinds := [], alts := [], laidByText := true, laidKinds := [.data, .data, .pinned, .pinned], laidTests := true, laidLooks := .later }
def FnKeyNodesUptoCardSaid : Prop := Claim7.holds Tryd.pinned (.plain (OpenSpec.upto fnKeyNodesSpec)) fnKeyNodesUptoCard

/-- THE SECOND FORM's CARD OF 'laws.FnKeyParts'. -/
def fnKeyPartsUptoCard : Claim7 := { stood := { row := fnKeyPartsUptoRow, standIns := [], harness := (true, "b3881480b28ba035772efb60e1a7b2980aab3d929f818e960d7898d9c7823d60"), looks := true }, kinds := [], alts := [], laidByText := true, laidKinds := [.data, .data, .pinned, .pinned], laidTests := true, laidLooks := .later }
def FnKeyPartsUptoCardSaid : Prop := Claim7.holds Tryd.pinned (.plain (OpenSpec.upto fnKeyPartsSpec)) fnKeyPartsUptoCard

/-- THE SECOND FORM's CARD OF 'laws.FnExactKeyValid'. -/
def fnExactKeyValidUptoCard : Claim7 := { stood := { row := fnExactKeyValidUptoRow, standIns := [], harness := (true, "b3881480b28ba035772efb60e1a7b2980aab3d929f818e960d7898d9c7823d60"), looks := true }, kinds := [], alts := [], laidByText := true, laidKinds := [.data, .data, .pinned, .pinned], laidTests := true, laidLooks := .later }
def FnExactKeyValidUptoCardSaid : Prop := Claim7.holds Tryd.pinned (.plain (OpenSpec.upto fnExactKeyValidSpec)) fnExactKeyValidUptoCard

/-- THE SECOND FORM's CARD OF 'laws.FnExactKeyFormat'. -/
def fnExactKeyFormatUptoCard : Claim7 := { stood := { row := fnExactKeyFormatUptoRow, standIns := [], harness := (true, "b3881480b28ba035772efb60e1a7b2980aab3d929f818e960d7898d9c7823d60"), looks := true }, kinds := [], alts := [], laidByText := true, laidKinds := [.data, .data, .data, .data, .data, .pinned, .pinned], laidTests := true, laidLooks := .later }
def FnExactKeyFormatUptoCardSaid : Prop := Claim7.holds Tryd.pinned (.plain (OpenSpec.upto fnExactKeyFormatSpec)) fnExactKeyFormatUptoCard
end Rows
end Go.Proofs.YtieehpjdodbgoaaDoor
