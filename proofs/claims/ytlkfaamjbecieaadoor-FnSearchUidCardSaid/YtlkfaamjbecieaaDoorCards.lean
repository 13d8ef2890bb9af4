/-
  DERIVED. GIVEN WITH THE SEED: THE CARDS: each row of YtlkfaamjbecieaaDoorRows.lean that lists a variable, with what it lists TIED to the program's text (the seventh form; the later family's looks); each row that meets fmt, with fmt's text TOLD by the authors' own Lean function (tested against real Go, not proved from fmt's source: count such statements apart). THE CARD IS WHAT COUNTS. Prove the row's statement (the work); the ties are given (YtlkfaamjbecieaaDoorTie.lean); close each card by the builder's one call (the guide's Derived/Test/ToyasCard.lean, 'card_holds'). Laid BY PROGRAM, IN A SANDBOX (cutbox-door.mjs). By AI agents, Wed Nov 11 2026. No macro, syntax, notation, axiom, sorry.
-/
import Derived.Test.YtlkfaamjbecieaaDoorRows
import GoSem.ClaimSeven
namespace Go.Proofs.YtlkfaamjbecieaaDoor
namespace Rows

/-- THE TIED CARD OF 'laws.FnSearchText'. -/
def fnSearchTextCard : Claim7 := { stood := { row := fnSearchTextRow, standIns := [], harness := (true, "316a73d7185376a22bb8b5264d6c5a044420bb0575f654291b369f0c5485e4cc"), looks := true }, kinds := [], alts := [], laidByText := true, laidKinds := [.data, .data, .pinned, .pinned], laidTests := true, laidLooks := .later }
def FnSearchTextCardSaid : Prop := Claim7.holds Tryd.pinned (.plain (OpenSpec.ofChange fnSearchTextSpec)) fnSearchTextCard

/-- THE TIED CARD OF 'laws.FnSearchAnd'. -/
def fnSearchAndCard : Claim7 := { stood := { row := fnSearchAndRow, standIns := [], harness := (true, "316a73d7185376a22bb8b5264d6c5a044420bb0575f654291b369f0c5485e4cc"), looks := true }, kinds := [], alts := [], laidByText := true, laidKinds := [.data, .data, .pinned, .pinned], laidTests := true, laidLooks := .later }
def FnSearchAndCardSaid : Prop := Claim7.holds Tryd.pinned (.plain (OpenSpec.ofChange fnSearchAndSpec)) fnSearchAndCard

/-- THE TIED CARD OF 'laws.FnSearchOr'. -/
def fnSearchOrCard : Claim7 := { stood := { row := fnSearchOrRow, standIns := [], harness := (true, "316a73d7185376a22bb8b5264d6c5a044420bb0575f654291b369f0c5485e4cc"), looks := true }, kinds := [], alts := [], laidByText := true, laidKinds := [.data, .data, .pinned, .pinned], laidTests := true, laidLooks := .later }
def FnSearchOrCardSaid : Prop := Claim7.holds Tryd.pinned (.plain (OpenSpec.ofChange fnSearchOrSpec)) fnSearchOrCard

/-- THE TIED CARD OF 'laws.FnSearch'. -/
def fnSearchCard : Claim7 := { stood := { row := fnSearchRow, standIns := [], harness := (true, "316a73d7185376a22bb8b5264d6c5a044420bb0575f654291b369f0c5485e4cc"), looks := true }, kinds := [], alts := [], laidByText := true, laidKinds := [.data, .data, .pinned, .pinned], laidTests := true, laidLooks := .later }
def FnSearchCardSaid : Prop := Claim7.holds Tryd.pinned (.plain (OpenSpec.ofChange fnSearchSpec)) fnSearchCard

/-- THE TIED CARD OF 'laws.FnSearchOrder'. -/
def fnSearchOrderCard : Claim7 := { stood := { row := fnSearchOrderRow, standIns := [], harness := (true, "316a73d7185376a22bb8b5264d6c5a044420bb0575f654291b369f0c5485e4cc"), looks := true }, kinds := [], alts := [], laidByText := true, laidKinds := [.data, .data, .pinned, .pinned], laidTests := true, laidLooks := .later }
def FnSearchOrderCardSaid : Prop := Claim7.holds Tryd.pinned (.plain (OpenSpec.ofChange fnSearchOrderSpec)) fnSearchOrderCard

/-- THE TIED CARD OF 'laws.FnSearchPlace'. -/
def fnSearchPlaceCard : Claim7 := { stood := { row := fnSearchPlaceRow, standIns := [], harness := (true, "316a73d7185376a22bb8b5264d6c5a044420bb0575f654291b369f0c5485e4cc"), looks := true }, kinds := [], alts := [], laidByText := true, laidKinds := [.data, .data, .pinned, .pinned], laidTests := true, laidLooks := .later }
def FnSearchPlaceCardSaid : Prop := Claim7.holds Tryd.pinned (.plain (OpenSpec.ofChange fnSearchPlaceSpec)) fnSearchPlaceCard

/-- THE TIED CARD OF 'laws.FnSearchMorgan'. -/
def fnSearchMorganCard : Claim7 := { stood := { row := fnSearchMorganRow, standIns := [], harness := (true, "316a73d7185376a22bb8b5264d6c5a044420bb0575f654291b369f0c5485e4cc"), looks := true }, kinds := [], alts := [], laidByText := true, laidKinds := [.data, .data, .pinned, .pinned], laidTests := true, laidLooks := .later }
def FnSearchMorganCardSaid : Prop := Claim7.holds Tryd.pinned (.plain (OpenSpec.ofChange fnSearchMorganSpec)) fnSearchMorganCard

/-- THE TIED CARD OF 'laws.FnSearchFlag'. -/
def fnSearchFlagCard : Claim7 := { stood := { row := fnSearchFlagRow, standIns := [], harness := (true, "316a73d7185376a22bb8b5264d6c5a044420bb0575f654291b369f0c5485e4cc"), looks := true }, kinds := [], alts := [], laidByText := true, laidKinds := [.data, .data, .pinned, .pinned], laidTests := true, laidLooks := .later }
def FnSearchFlagCardSaid : Prop := Claim7.holds Tryd.pinned (.plain (OpenSpec.ofChange fnSearchFlagSpec)) fnSearchFlagCard

/-- THE TIED CARD OF 'laws.FnSearchNot'. -/
def fnSearchNotCard : Claim7 := { stood := { row := fnSearchNotRow, standIns := [], harness := (true, "316a73d7185376a22bb8b5264d6c5a044420bb0575f654291b369f0c5485e4cc"), looks := true }, kinds := [], alts := [], laidByText := true, laidKinds := [.data, .data, .pinned, .pinned], laidTests := true, laidLooks := .later }
def FnSearchNotCardSaid : Prop := Claim7.holds Tryd.pinned (.plain (OpenSpec.ofChange fnSearchNotSpec)) fnSearchNotCard

/-- THE TIED CARD OF 'laws.FnSearchUid'. -/
def fnSearchUidCard : Claim7 := { stood := { row := fnSearchUidRow, standIns := [], harness := (true, "316a73d7185376a22bb8b5264d6c5a044420bb0575f654291b369f0c5485e4cc"), looks := true }, kinds := [], alts := [], laidByText := true, laidKinds := [.data, .data, .pinned, .pinned], laidTests := true, laidLooks := .later }
def FnSearchUidCardSaid : Prop := Claim7.holds Tryd.pinned (.plain (OpenSpec.ofChange fnSearchUidSpec)) fnSearchUidCard

/-- THE SECOND FORM's CARD OF 'laws.FnSearchText'. -/
def fnSearchTextUptoCard : Claim7 := { stood := { row := fnSearchTextUptoRow, standIns := [], harness := (true, "316a73d7185376a22bb8b5264d6c5a044420bb0575f654291b369f0c5485e4cc"), looks := true }, kinds := [], alts := [], laidByText := true, laidKinds := [.data, .data, .pinned, .pinned], laidTests := true, laidLooks := .later }
def FnSearchTextUptoCardSaid : Prop := Claim7.holds Tryd.pinned (.plain (OpenSpec.upto fnSearchTextSpec)) fnSearchTextUptoCard

/-- THE SECOND FORM's CARD OF 'laws.FnSearchAnd'. -/
def fnSearchAndUptoCard : Claim7 := { stood := { row := fnSearchAndUptoRow, standIns := [], harness := (true, "316a73d7185376a22bb8b5264d6c5a044420bb0575f654291b369f0c5485e4cc"), looks := true }, kinds := [], alts := [], laidByText := true, laidKinds := [.data, .data, .pinned, .pinned], laidTests := true, laidLooks := .later }
def FnSearchAndUptoCardSaid : Prop := Claim7.holds Tryd.pinned (.plain (OpenSpec.upto fnSearchAndSpec)) fnSearchAndUptoCard

/-- THE SECOND FORM's CARD OF 'laws.FnSearchOr'. -/
def fnSearchOrUptoCard : Claim7 := { stood := { row := fnSearchOrUptoRow, standIns := [], harness := (true, "316a73d7185376a22bb8b5264d6c5a044420bb0575f654291b369f0c5485e4cc"), looks := true }, kinds := [], alts := [], laidByText := true, laidKinds := [.data, .data, .pinned, .pinned], laidTests := true, laidLooks := .later }
def FnSearchOrUptoCardSaid : Prop := Claim7.holds Tryd.pinned (.plain (OpenSpec.upto fnSearchOrSpec)) fnSearchOrUptoCard

/-- THE SECOND FORM's CARD OF 'laws.FnSearch'. -/
def fnSearchUptoCard : Claim7 := { stood := { row := fnSearchUptoRow, standIns := [], harness := (true, "316a73d7185376a22bb8b5264d6c5a044420bb0575f654291b369f0c5485e4cc"), looks := true }, kinds := [], alts := [], laidByText := true, laidKinds := [.data, .data, .pinned, .pinned], laidTests := true, laidLooks := .later }
def FnSearchUptoCardSaid : Prop := Claim7.holds Tryd.pinned (.plain (OpenSpec.upto fnSearchSpec)) fnSearchUptoCard

/-- THE SECOND FORM's CARD OF 'laws.FnSearchOrder'. -/
def fnSearchOrderUptoCard : Claim7 := { stood := { row := fnSearchOrderUptoRow, standIns := [], harness := (true, "316a73d7185376a22bb8b5264d6c5a044420bb0575f654291b369f0c5485e4cc"), looks := true }, kinds := [], alts := [], laidByText := true, laidKinds := [.data, .data, .pinned, .pinned], laidTests := true, laidLooks := .later }
def FnSearchOrderUptoCardSaid : Prop := Claim7.holds Tryd.pinned (.plain (OpenSpec.upto fnSearchOrderSpec)) fnSearchOrderUptoCard

/-- THE SECOND FORM's CARD OF 'laws.FnSearchPlace'. -/
def fnSearchPlaceUptoCard : Claim7 := { stood := { row := fnSearchPlaceUptoRow, standIns := [], harness := (true, "316a73d7185376a22bb8b5264d6c5a044420bb0575f654291b369f0c5485e4cc"), looks := true }, kinds := [], alts := [], laidByText := true, laidKinds := [.data, .data, .pinned, .pinned], laidTests := true, laidLooks := .later }
def FnSearchPlaceUptoCardSaid : Prop := Claim7.holds Tryd.pinned (.plain (OpenSpec.upto fnSearchPlaceSpec)) fnSearchPlaceUptoCard

/-- THE SECOND FORM's CARD OF 'laws.FnSearchMorgan'. -/
def fnSearchMorganUptoCard : Claim7 := { stood := { row := fnSearchMorganUptoRow, standIns := [], harness := (true, "316a73d7185376a22bb8b5264d6c5a044420bb0575f654291b369f0c5485e4cc"), looks := true }, kinds := [], alts := [], laidByText := true, laidKinds := [.data, .data, .pinned, .pinned], laidTests := true, laidLooks := .later }
def FnSearchMorganUptoCardSaid : Prop := Claim7.holds Tryd.pinned (.plain (OpenSpec.upto fnSearchMorganSpec)) fnSearchMorganUptoCard

/-- THE SECOND FORM's CARD OF 'laws.FnSearchFlag'. -/
def fnSearchFlagUptoCard : Claim7 := { stood := { row := fnSearchFlagUptoRow, standIns := [], harness := (true, "316a73d7185376a22bb8b5264d6c5a044420bb0575f654291b369f0c5485e4cc"), looks := true }, kinds := [], alts := [], laidByText := true, laidKinds := [.data, .data, .pinned, .pinned], laidTests := true, laidLooks := .later }
def FnSearchFlagUptoCardSaid : Prop := Claim7.holds Tryd.pinned (.plain (OpenSpec.upto fnSearchFlagSpec)) fnSearchFlagUptoCard

/-- THE SECOND FORM's CARD OF 'laws.FnSearchNot'. -/
def fnSearchNotUptoCard : Claim7 := { stood := { row := fnSearchNotUptoRow, standIns := [], harness := (true, "316a73d7185376a22bb8b5264d6c5a044420bb0575f654291b369f0c5485e4cc"), looks := true }, kinds := [], alts := [], laidByText := true, laidKinds := [.data, .data, .pinned, .pinned], laidTests := true, laidLooks := .later }
def FnSearchNotUptoCardSaid : Prop := Claim7.holds Tryd.pinned (.plain (OpenSpec.upto fnSearchNotSpec)) fnSearchNotUptoCard

/-- THE SECOND FORM's CARD OF 'laws.FnSearchUid'. -/
def fnSearchUidUptoCard : Claim7 := { stood := { row := fnSearchUidUptoRow, standIns := [], harness := (true, "316a73d7185376a22bb8b5264d6c5a044420bb0575f654291b369f0c5485e4cc"), looks := true }, kinds := [], alts := [], laidByText := true, laidKinds := [.data, .data, .pinned, .pinned], laidTests := true, laidLooks := .later }
def FnSearchUidUptoCardSaid : Prop := Claim7.holds Tryd.pinned (.plain (OpenSpec.upto fnSearchUidSpec)) fnSearchUidUptoCard
end Rows
end Go.Proofs.YtlkfaamjbecieaaDoor
