/-
  NARROWER THAN 'FOR EVERY INPUT', by the rows' own cells (each row's printed sentence says how): FnExactFlagsParse: laid · FnFlagsOrder: laid · FnFlagsTwice: laid · FnFlags: laid · FnFlagsParse: laid.
  DERIVED. THE GIVEN ROWS OF THIS SEAT. 5 by the template 'for every input the law returns true; each argument reads behind the call as it read before'; 0 by the template 'total and deterministic' (their statements: YtbmpbkidjcaogaaDoorTotals.lean).
  GIVEN WITH THE SEED: the statements are not yours to turn. If you find one false, say at which input.
  Laid BY PROGRAM, IN A SANDBOX (cutbox-rows.mjs): the forced cells as the released guide's own fill.sh prints them over the translation cf2a93e63b156ae2… (all of the seat's roots in one cut). By AI agents, Wed Nov 11 2026. No macro, syntax, notation, axiom, sorry.
-/
import Derived.Test.YtbmpbkidjcaogaaDoorChecked
import GoSem.PinnedTables
import GoSem.Claim
import GoSem.ClaimJoined
import GoSem.ClaimMapViews
import Derived.JoinedTies
import Derived.KernelRfl
namespace Go.Proofs.YtbmpbkidjcaogaaDoor
/- THE CELL 'sum', in the pinned program and in every row, IS THE sha256 OF THE DUMP (.gsa) THAT YtbmpbkidjcaogaaDoorProg.lean LOADS. Nothing in Lean hashes anything: it is a label: what it is worth is what the hold of that sum in a sandbox is worth. -/
noncomputable def Tryd.pinned : Pinned := { name := "ytbmpbkidjcaogaadoor", sum := "cf2a93e63b156ae242b373aaa4ec03043a612af1ebeb688d1ae079278b2ff33f", checked := Tryd.checked }
namespace Rows
def none {H : Type} : Left H := { results := [], args := [] }

/- WHAT THE LISTED PACKAGE-LEVEL VARIABLES READ AS WHEN THE CALL BEGINS. Each datum BY PROGRAM (the guide's laid-datum.mjs) off the statement by which the dump's own 'gosem.cut.vars' lays the variable. In a bare row this is a premise. The card (YtbmpbkidjcaogaaDoorCards.lean) ties it to the program's text. -/
def laid_unicode_utf8_acceptRanges {H : Type} : DataW H := .agg [.agg [.lit (.int .u8 128), .lit (.int .u8 191)], .agg [.lit (.int .u8 160), .lit (.int .u8 191)], .agg [.lit (.int .u8 128), .lit (.int .u8 159)], .agg [.lit (.int .u8 144), .lit (.int .u8 191)], .agg [.lit (.int .u8 128), .lit (.int .u8 143)], .agg [.lit (.int .u8 0), .lit (.int .u8 0)], .agg [.lit (.int .u8 0), .lit (.int .u8 0)], .agg [.lit (.int .u8 0), .lit (.int .u8 0)], .agg [.lit (.int .u8 0), .lit (.int .u8 0)], .agg [.lit (.int .u8 0), .lit (.int .u8 0)], .agg [.lit (.int .u8 0), .lit (.int .u8 0)], .agg [.lit (.int .u8 0), .lit (.int .u8 0)], .agg [.lit (.int .u8 0), .lit (.int .u8 0)], .agg [.lit (.int .u8 0), .lit (.int .u8 0)], .agg [.lit (.int .u8 0), .lit (.int .u8 0)], .agg [.lit (.int .u8 0), .lit (.int .u8 0)]]
def laid_loop_example_mailhost_impl_flagNames {H : Type} : DataW H := .agg [.lit (.string [83, 101, 101, 110]), .lit (.string [65, 110, 115, 119, 101, 114, 101, 100]), .lit (.string [70, 108, 97, 103, 103, 101, 100]), .lit (.string [68, 101, 108, 101, 116, 101, 100]), .lit (.string [68, 114, 97, 102, 116])]
/-- One of Go's own tables, pinned by name: the form's constant. -/
def laid_unicode_utf8_first : DataW Unit := Go.Pinned.utf8First

/-- 'laws.FnExactFlagsParse': WHATEVER THE INPUT: true; the input reads as it did. -/
def fnExactFlagsParseSpec : ChangeSpec := { name := "fnExactFlagsParse", vars := ["loop.example/mailhost/impl.flagNames"], fn := fun _ => fun
  | [d, g1] => { results := [.lit (.bool true)], args := [d], vars := [g1] }
  | _ => none }
def fnExactFlagsParseRow : OpenClaim := { program := "ytbmpbkidjcaogaadoor", sum := "cf2a93e63b156ae242b373aaa4ec03043a612af1ebeb688d1ae079278b2ff33f", func := "loop.example/mailhost/laws.FnExactFlagsParse", spec := "fnExactFlagsParse", inPlace := ["internal/bytealg.IndexByteString", "internal/bytealg.IndexString"], unfollowed := true, recurses := true, named := ["unicode/utf8.first", "unicode/utf8.acceptRanges", "internal/bytealg.MaxLen", "loop.example/mailhost/impl.flagNames"], apart := false, laid := [("unicode/utf8.acceptRanges", laid_unicode_utf8_acceptRanges), ("loop.example/mailhost/impl.flagNames", laid_loop_example_mailhost_impl_flagNames), ("unicode/utf8.first", laid_unicode_utf8_first)] }
def FnExactFlagsParseSaid : Prop := fnExactFlagsParseRow.holds Tryd.pinned (OpenSpec.ofChange fnExactFlagsParseSpec)

/-- ITS FALSE NEIGHBOUR: 'it returns false'. Refute it at one input. -/
def fnExactFlagsParseWrong : ChangeSpec := { name := "fnExactFlagsParse", vars := ["loop.example/mailhost/impl.flagNames"], fn := fun _ => fun
  | [d, g1] => { results := [.lit (.bool false)], args := [d], vars := [g1] }
  | _ => none }
def FnExactFlagsParseWrongFalsely : Prop := fnExactFlagsParseRow.holds Tryd.pinned (OpenSpec.ofChange fnExactFlagsParseWrong)

/-- 'laws.FnFlagsOrder': WHATEVER THE INPUT: true; the input reads as it did. -/
def fnFlagsOrderSpec : ChangeSpec := { name := "fnFlagsOrder", vars := ["loop.example/mailhost/impl.flagNames"], fn := fun _ => fun
  | [d, g1] => { results := [.lit (.bool true)], args := [d], vars := [g1] }
  | _ => none }
def fnFlagsOrderRow : OpenClaim := { program := "ytbmpbkidjcaogaadoor", sum := "cf2a93e63b156ae242b373aaa4ec03043a612af1ebeb688d1ae079278b2ff33f", func := "loop.example/mailhost/laws.FnFlagsOrder", spec := "fnFlagsOrder", inPlace := ["internal/bytealg.IndexByteString", "internal/bytealg.IndexString"], unfollowed := true, recurses := true, named := ["unicode/utf8.first", "unicode/utf8.acceptRanges", "internal/bytealg.MaxLen", "loop.example/mailhost/impl.flagNames"], apart := false, laid := [("unicode/utf8.acceptRanges", laid_unicode_utf8_acceptRanges), ("loop.example/mailhost/impl.flagNames", laid_loop_example_mailhost_impl_flagNames), ("unicode/utf8.first", laid_unicode_utf8_first)] }
def FnFlagsOrderSaid : Prop := fnFlagsOrderRow.holds Tryd.pinned (OpenSpec.ofChange fnFlagsOrderSpec)

/-- ITS FALSE NEIGHBOUR: 'it returns false'. Refute it at one input. -/
def fnFlagsOrderWrong : ChangeSpec := { name := "fnFlagsOrder", vars := ["loop.example/mailhost/impl.flagNames"], fn := fun _ => fun
  | [d, g1] => { results := [.lit (.bool false)], args := [d], vars := [g1] }
  | _ => none }
def FnFlagsOrderWrongFalsely : Prop := fnFlagsOrderRow.holds Tryd.pinned (OpenSpec.ofChange fnFlagsOrderWrong)

/-- 'laws.FnFlagsTwice': WHATEVER THE INPUT: true; the input reads as it did. -/
def fnFlagsTwiceSpec : ChangeSpec := { name := "fnFlagsTwice", vars := ["loop.example/mailhost/impl.flagNames"], fn := fun _ => fun
  | [d, g1] => { results := [.lit (.bool true)], args := [d], vars := [g1] }
  | _ => none }
def fnFlagsTwiceRow : OpenClaim := { program := "ytbmpbkidjcaogaadoor", sum := "cf2a93e63b156ae242b373aaa4ec03043a612af1ebeb688d1ae079278b2ff33f", func := "loop.example/mailhost/laws.FnFlagsTwice", spec := "fnFlagsTwice", inPlace := ["internal/bytealg.IndexByteString", "internal/bytealg.IndexString"], unfollowed := true, recurses := true, named := ["unicode/utf8.first", "unicode/utf8.acceptRanges", "internal/bytealg.MaxLen", "loop.example/mailhost/impl.flagNames"], apart := false, laid := [("unicode/utf8.acceptRanges", laid_unicode_utf8_acceptRanges), ("loop.example/mailhost/impl.flagNames", laid_loop_example_mailhost_impl_flagNames), ("unicode/utf8.first", laid_unicode_utf8_first)] }
def FnFlagsTwiceSaid : Prop := fnFlagsTwiceRow.holds Tryd.pinned (OpenSpec.ofChange fnFlagsTwiceSpec)

/-- ITS FALSE NEIGHBOUR: 'it returns false'. Refute it at one input. -/
def fnFlagsTwiceWrong : ChangeSpec := { name := "fnFlagsTwice", vars := ["loop.example/mailhost/impl.flagNames"], fn := fun _ => fun
  | [d, g1] => { results := [.lit (.bool false)], args := [d], vars := [g1] }
  | _ => none }
def FnFlagsTwiceWrongFalsely : Prop := fnFlagsTwiceRow.holds Tryd.pinned (OpenSpec.ofChange fnFlagsTwiceWrong)

/-- 'laws.FnFlags': WHATEVER THE INPUT: true; the input reads as it did. -/
def fnFlagsSpec : ChangeSpec := { name := "fnFlags", vars := ["loop.example/mailhost/impl.flagNames"], fn := fun _ => fun
  | [d, g1] => { results := [.lit (.bool true)], args := [d], vars := [g1] }
  | _ => none }
def fnFlagsRow : OpenClaim := { program := "ytbmpbkidjcaogaadoor", sum := "cf2a93e63b156ae242b373aaa4ec03043a612af1ebeb688d1ae079278b2ff33f", func := "loop.example/mailhost/laws.FnFlags", spec := "fnFlags", inPlace := ["internal/abi.NoEscape", "internal/bytealg.MakeNoZero", "internal/bytealg.IndexByteString", "internal/bytealg.IndexString"], unfollowed := true, recurses := true, named := ["loop.example/mailhost/impl.flagNames", "unicode/utf8.first", "unicode/utf8.acceptRanges", "internal/bytealg.MaxLen"], apart := false, laid := [("unicode/utf8.acceptRanges", laid_unicode_utf8_acceptRanges), ("loop.example/mailhost/impl.flagNames", laid_loop_example_mailhost_impl_flagNames), ("unicode/utf8.first", laid_unicode_utf8_first)] }
def FnFlagsSaid : Prop := fnFlagsRow.holds Tryd.pinned (OpenSpec.ofChange fnFlagsSpec)

/-- ITS FALSE NEIGHBOUR: 'it returns false'. Refute it at one input. -/
def fnFlagsWrong : ChangeSpec := { name := "fnFlags", vars := ["loop.example/mailhost/impl.flagNames"], fn := fun _ => fun
  | [d, g1] => { results := [.lit (.bool false)], args := [d], vars := [g1] }
  | _ => none }
def FnFlagsWrongFalsely : Prop := fnFlagsRow.holds Tryd.pinned (OpenSpec.ofChange fnFlagsWrong)

/-- 'laws.FnFlagsParse': WHATEVER THE INPUT: true; the input reads as it did. -/
def fnFlagsParseSpec : ChangeSpec := { name := "fnFlagsParse", vars := ["loop.example/mailhost/impl.flagNames"], fn := fun _ => fun
  | [d, g1] => { results := [.lit (.bool true)], args := [d], vars := [g1] }
  | _ => none }
def fnFlagsParseRow : OpenClaim := { program := "ytbmpbkidjcaogaadoor", sum := "cf2a93e63b156ae242b373aaa4ec03043a612af1ebeb688d1ae079278b2ff33f", func := "loop.example/mailhost/laws.FnFlagsParse", spec := "fnFlagsParse", inPlace := ["internal/bytealg.IndexByteString", "internal/bytealg.IndexString", "internal/abi.NoEscape", "internal/bytealg.MakeNoZero"], unfollowed := true, recurses := true, named := ["unicode/utf8.first", "unicode/utf8.acceptRanges", "internal/bytealg.MaxLen", "loop.example/mailhost/impl.flagNames"], apart := false, laid := [("unicode/utf8.acceptRanges", laid_unicode_utf8_acceptRanges), ("loop.example/mailhost/impl.flagNames", laid_loop_example_mailhost_impl_flagNames), ("unicode/utf8.first", laid_unicode_utf8_first)] }
def FnFlagsParseSaid : Prop := fnFlagsParseRow.holds Tryd.pinned (OpenSpec.ofChange fnFlagsParseSpec)

/-- ITS FALSE NEIGHBOUR: 'it returns false'. Refute it at one input. -/
def fnFlagsParseWrong : ChangeSpec := { name := "fnFlagsParse", vars := ["loop.example/mailhost/impl.flagNames"], fn := fun _ => fun
  | [d, g1] => { results := [.lit (.bool false)], args := [d], vars := [g1] }
  | _ => none }
def FnFlagsParseWrongFalsely : Prop := fnFlagsParseRow.holds Tryd.pinned (OpenSpec.ofChange fnFlagsParseWrong)

/- THE SECOND FORM. 'bulk': how many values and letters a reading holds, each counted each time it is reached (what is shared counts as often as it is met; a slice's spare places count too). A statement '..UptoSaid' is the law's where the arguments, and the package variables that the reading takes, are together of bulk at most 1048576: NARROWER than '..Said'. Prove '..Said' where nothing that the law and all that it calls make is longer than what came in: it says more and counts as full. Else prove '..UptoSaid'. A law counts once. -/
mutual
def uptoBulk {H : Type} : DataW H → Nat
  | .lit (.string bytes) => bytes.length + 1
  | .lit _ => 1
  | .nil => 1
  | .ptr d => uptoBulk d + 1
  | .slice elems spare => uptoBulkAll elems + uptoBulkAll spare + 1
  | .agg parts => uptoBulkAll parts + 1
  | .iface _ d => uptoBulk d + 1
  | .map entries => uptoBulkEntries entries + 1
  | .held _ => 1
def uptoBulkAll {H : Type} : List (DataW H) → Nat
  | [] => 0
  | d :: r => uptoBulk d + uptoBulkAll r
def uptoBulkEntries {H : Type} : List (Lit × DataW H) → Nat
  | [] => 0
  | x :: r => uptoBulkEntry x + uptoBulkEntries r
def uptoBulkEntry {H : Type} : Lit × DataW H → Nat
  | (.string bytes, d) => bytes.length + uptoBulk d + 1
  | (_, d) => uptoBulk d + 1
 end
def uptoSmall : (H : Type) → List (DataW H) → Bool := fun _ ds => decide (uptoBulkAll ds ≤ 1048576)
def OpenSpec.upto (s : _root_.Go.ChangeSpec) : _root_.Go.OpenSpec := { _root_.Go.OpenSpec.ofChange s with cond := some uptoSmall }

/-- 'laws.FnExactFlagsParse', WHERE WHAT IT READS IS OF BULK AT MOST 1048576: true; the input reads as it did. -/
def fnExactFlagsParseUptoRow : OpenClaim := { program := "ytbmpbkidjcaogaadoor", sum := "cf2a93e63b156ae242b373aaa4ec03043a612af1ebeb688d1ae079278b2ff33f", func := "loop.example/mailhost/laws.FnExactFlagsParse", spec := "fnExactFlagsParse", inPlace := ["internal/bytealg.IndexByteString", "internal/bytealg.IndexString"], unfollowed := true, recurses := true, named := ["unicode/utf8.first", "unicode/utf8.acceptRanges", "internal/bytealg.MaxLen", "loop.example/mailhost/impl.flagNames"], apart := false, laid := [("unicode/utf8.acceptRanges", laid_unicode_utf8_acceptRanges), ("loop.example/mailhost/impl.flagNames", laid_loop_example_mailhost_impl_flagNames), ("unicode/utf8.first", laid_unicode_utf8_first)], narrowed := true }
def FnExactFlagsParseUptoSaid : Prop := fnExactFlagsParseUptoRow.holds Tryd.pinned (OpenSpec.upto fnExactFlagsParseSpec)

/-- 'laws.FnFlagsOrder', WHERE WHAT IT READS IS OF BULK AT MOST 1048576: true; the input reads as it did. -/
def fnFlagsOrderUptoRow : OpenClaim := { program := "ytbmpbkidjcaogaadoor", sum := "cf2a93e63b156ae242b373aaa4ec03043a612af1ebeb688d1ae079278b2ff33f", func := "loop.example/mailhost/laws.FnFlagsOrder", spec := "fnFlagsOrder", inPlace := ["internal/bytealg.IndexByteString", "internal/bytealg.IndexString"], unfollowed := true, recurses := true, named := ["unicode/utf8.first", "unicode/utf8.acceptRanges", "internal/bytealg.MaxLen", "loop.example/mailhost/impl.flagNames"], apart := false, laid := [("unicode/utf8.acceptRanges", laid_unicode_utf8_acceptRanges), ("loop.example/mailhost/impl.flagNames", laid_loop_example_mailhost_impl_flagNames), ("unicode/utf8.first", laid_unicode_utf8_first)], narrowed := true }
def FnFlagsOrderUptoSaid : Prop := fnFlagsOrderUptoRow.holds Tryd.pinned (OpenSpec.upto fnFlagsOrderSpec)

/-- 'laws.FnFlagsTwice', WHERE WHAT IT READS IS OF BULK AT MOST 1048576: true; the input reads as it did. -/
def fnFlagsTwiceUptoRow : OpenClaim := { program := "ytbmpbkidjcaogaadoor", sum := "cf2a93e63b156ae242b373aaa4ec03043a612af1ebeb688d1ae079278b2ff33f", func := "loop.example/mailhost/laws.FnFlagsTwice", spec := "fnFlagsTwice", inPlace := ["internal/bytealg.IndexByteString", "internal/bytealg.IndexString"], unfollowed := true, recurses := true, named := ["unicode/utf8.first", "unicode/utf8.acceptRanges", "internal/bytealg.MaxLen", "loop.example/mailhost/impl.flagNames"], apart := false, laid := [("unicode/utf8.acceptRanges", laid_unicode_utf8_acceptRanges), ("loop.example/mailhost/impl.flagNames", laid_loop_example_mailhost_impl_flagNames), ("unicode/utf8.first", laid_unicode_utf8_first)], narrowed := true }
def FnFlagsTwiceUptoSaid : Prop := fnFlagsTwiceUptoRow.holds Tryd.pinned (OpenSpec.upto fnFlagsTwiceSpec)

/-- 'laws.FnFlags', WHERE WHAT IT READS IS OF BULK AT MOST 1048576: true; the input reads as it did. -/
def fnFlagsUptoRow : OpenClaim := { program := "ytbmpbkidjcaogaadoor", sum := "cf2a93e63b156ae242b373aaa4ec03043a612af1ebeb688d1ae079278b2ff33f", func := "loop.example/mailhost/laws.FnFlags", spec := "fnFlags", inPlace := ["internal/abi.NoEscape", "internal/bytealg.MakeNoZero", "internal/bytealg.IndexByteString", "internal/bytealg.IndexString"], unfollowed := true, recurses := true, named := ["loop.example/mailhost/impl.flagNames", "unicode/utf8.first", "unicode/utf8.acceptRanges", "internal/bytealg.MaxLen"], apart := false, laid := [("unicode/utf8.acceptRanges", laid_unicode_utf8_acceptRanges), ("loop.example/mailhost/impl.flagNames", laid_loop_example_mailhost_impl_flagNames), ("unicode/utf8.first", laid_unicode_utf8_first)], narrowed := true }
def FnFlagsUptoSaid : Prop := fnFlagsUptoRow.holds Tryd.pinned (OpenSpec.upto fnFlagsSpec)

/-- 'laws.FnFlagsParse', WHERE WHAT IT READS IS OF BULK AT MOST 1048576: true; the input reads as it did. -/
def fnFlagsParseUptoRow : OpenClaim := { program := "ytbmpbkidjcaogaadoor", sum := "cf2a93e63b156ae242b373aaa4ec03043a612af1ebeb688d1ae079278b2ff33f", func := "loop.example/mailhost/laws.FnFlagsParse", spec := "fnFlagsParse", inPlace := ["internal/bytealg.IndexByteString", "internal/bytealg.IndexString", "internal/abi.NoEscape", "internal/bytealg.MakeNoZero"], unfollowed := true, recurses := true, named := ["unicode/utf8.first", "unicode/utf8.acceptRanges", "internal/bytealg.MaxLen", "loop.example/mailhost/impl.flagNames"], apart := false, laid := [("unicode/utf8.acceptRanges", laid_unicode_utf8_acceptRanges), ("loop.example/mailhost/impl.flagNames", laid_loop_example_mailhost_impl_flagNames), ("unicode/utf8.first", laid_unicode_utf8_first)], narrowed := true }
def FnFlagsParseUptoSaid : Prop := fnFlagsParseUptoRow.holds Tryd.pinned (OpenSpec.upto fnFlagsParseSpec)

end Rows
end Go.Proofs.YtbmpbkidjcaogaaDoor
