/-
  DERIVED. GIVEN WITH THE SEED: THE CARDS: each row of YtbmpbkidjcaogaaDoorRows.lean that lists a variable, with what it lists TIED to the program's text (the seventh form; the later family's looks); each row that meets fmt, with fmt's text TOLD by the authors' own Lean function (tested against real Go, not proved from fmt's source: count such statements apart). THE CARD IS WHAT COUNTS. Prove the row's statement (the work); the ties are given (YtbmpbkidjcaogaaDoorTie.lean); close each card by the builder's one call (the guide's Derived/Test/ToyasCard.lean, 'card_holds'). Laid BY PROGRAM, IN A SANDBOX (cutbox-door.mjs). By AI agents, Wed Nov 11 2026. No macro, syntax, notation, axiom, sorry.
-/
import Derived.Test.YtbmpbkidjcaogaaDoorRows
import GoSem.ClaimSeven
namespace Go.Proofs.YtbmpbkidjcaogaaDoor
namespace Rows

/-- THE TIED CARD OF 'laws.FnExactFlagsParse'. -/
def fnExactFlagsParseCard : Claim7 := { stood := { row := fnExactFlagsParseRow, standIns := [], harness := (true, "5112cd6d8b61a91a3201e75925f09bdb6796a7ebc1843fff8d061a8c9b085dd3"), looks := false }, kinds := [], alts := [], laidByText := true, laidKinds := [.data, .data, .pinned], laidTests := true, laidLooks := .later }
def FnExactFlagsParseCardSaid : Prop := Claim7.holds Tryd.pinned (.plain (OpenSpec.ofChange fnExactFlagsParseSpec)) fnExactFlagsParseCard

/-- THE TIED CARD OF 'laws.FnFlagsOrder'. -/
def fnFlagsOrderCard : Claim7 := { stood := { row := fnFlagsOrderRow, standIns := [], harness := (true, "5112cd6d8b61a91a3201e75925f09bdb6796a7ebc1843fff8d061a8c9b085dd3"), looks := false }, kinds := [], alts := [], laidByText := true, laidKinds := [.data, .data, .pinned], laidTests := true, laidLooks := .later }
def FnFlagsOrderCardSaid : Prop := Claim7.holds Tryd.pinned (.plain (OpenSpec.ofChange fnFlagsOrderSpec)) fnFlagsOrderCard

/-- THE TIED CARD OF 'laws.FnFlagsTwice'. -/
def fnFlagsTwiceCard : Claim7 := { stood := { row := fnFlagsTwiceRow, standIns := [], harness := (true, "5112cd6d8b61a91a3201e75925f09bdb6796a7ebc1843fff8d061a8c9b085dd3"), looks := false }, kinds := [], alts := [], laidByText := true, laidKinds := [.data, .data, .pinned], laidTests := true, laidLooks := .later }
def FnFlagsTwiceCardSaid : Prop := Claim7.holds Tryd.pinned (.plain (OpenSpec.ofChange fnFlagsTwiceSpec)) fnFlagsTwiceCard

/-- THE TIED CARD OF 'laws.FnFlags'. -/
def fnFlagsCard : Claim7 := { stood := { row := fnFlagsRow, standIns := [], harness := (true, "5112cd6d8b61a91a3201e75925f09bdb6796a7ebc1843fff8d061a8c9b085dd3"), looks := false }, kinds := [], alts := [], laidByText := true, laidKinds := [.data, .data, .pinned], laidTests := true, laidLooks := .later }
def FnFlagsCardSaid : Prop := Claim7.holds Tryd.pinned (.plain (OpenSpec.ofChange fnFlagsSpec)) fnFlagsCard

/-- THE TIED CARD OF 'laws.FnFlagsParse'. -/
def fnFlagsParseCard : Claim7 := { stood := { row := fnFlagsParseRow, standIns := [], harness := (true, "5112cd6d8b61a91a3201e75925f09bdb6796a7ebc1843fff8d061a8c9b085dd3"), looks := false }, kinds := [], alts := [], laidByText := true, laidKinds := [.data, .data, .pinned], laidTests := true, laidLooks := .later }
def FnFlagsParseCardSaid : Prop := Claim7.holds Tryd.pinned (.plain (OpenSpec.ofChange fnFlagsParseSpec)) fnFlagsParseCard

/-- THE SECOND FORM's CARD OF 'laws.FnExactFlagsParse'. -/
def fnExactFlagsParseUptoCard : Claim7 := { stood := { row := fnExactFlagsParseUptoRow, standIns := [], harness := (true, "5112cd6d8b61a91a3201e75925f09bdb6796a7ebc1843fff8d061a8c9b085dd3"), looks := false }, kinds := [], alts := [], laidByText := true, laidKinds := [.data, .data, .pinned], laidTests := true, laidLooks := .later }
def FnExactFlagsParseUptoCardSaid : Prop := Claim7.holds Tryd.pinned (.plain (OpenSpec.upto fnExactFlagsParseSpec)) fnExactFlagsParseUptoCard

/-- THE SECOND FORM's CARD OF 'laws.FnFlagsOrder'. -/
def fnFlagsOrderUptoCard : Claim7 := { stood := { row := fnFlagsOrderUptoRow, standIns := [], harness := (true, "5112cd6d8b61a91a3201e75925f09bdb6796a7ebc1843fff8d061a8c9b085dd3"), looks := false }, kinds := [], alts := [], laidByText := true, laidKinds := [.data, .data, .pinned], laidTests := true, laidLooks := .later }
def FnFlagsOrderUptoCardSaid : Prop := Claim7.holds Tryd.pinned (.plain (OpenSpec.upto fnFlagsOrderSpec)) fnFlagsOrderUptoCard

/-- THE SECOND FORM's CARD OF 'laws.FnFlagsTwice'. -/
def fnFlagsTwiceUptoCard : Claim7 := { stood := { row := fnFlagsTwiceUptoRow, standIns := [], harness := (true, "5112cd6d8b61a91a3201e75925f09bdb6796a7ebc1843fff8d061a8c9b085dd3"), looks := false }, kinds := [], alts := [], laidByText := true, laidKinds := [.data, .data, .pinned], laidTests := true, laidLooks := .later }
def FnFlagsTwiceUptoCardSaid : Prop := Claim7.holds Tryd.pinned (.plain (OpenSpec.upto fnFlagsTwiceSpec)) fnFlagsTwiceUptoCard

/-- THE SECOND FORM's CARD OF 'laws.FnFlags'. -/
def fnFlagsUptoCard : Claim7 := { stood := { row := fnFlagsUptoRow, standIns := [], harness := (true, "5112cd6d8b61a91a3201e75925f09bdb6796a7ebc1843fff8d061a8c9b085dd3"), looks := false }, kinds := [], alts := [], laidByText := true, laidKinds := [.data, .data, .pinned], laidTests := true, laidLooks := .later }
def FnFlagsUptoCardSaid : Prop := Claim7.holds Tryd.pinned (.plain (OpenSpec.upto fnFlagsSpec)) fnFlagsUptoCard

/-- THE SECOND FORM's CARD OF 'laws.FnFlagsParse'. -/
def fnFlagsParseUptoCard : Claim7 := { stood := { row := fnFlagsParseUptoRow, standIns := [], harness := (true, "5112cd6d8b61a91a3201e75925f09bdb6796a7ebc1843fff8d061a8c9b085dd3"), looks := false }, kinds := [], alts := [], laidByText := true, laidKinds := [.data, .data, .pinned], laidTests := true, laidLooks := .later }
def FnFlagsParseUptoCardSaid : Prop := Claim7.holds Tryd.pinned (.plain (OpenSpec.upto fnFlagsParseSpec)) fnFlagsParseUptoCard
end Rows
end Go.Proofs.YtbmpbkidjcaogaaDoor
