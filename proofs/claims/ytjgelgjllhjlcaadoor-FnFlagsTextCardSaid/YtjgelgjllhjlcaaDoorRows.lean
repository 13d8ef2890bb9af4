/-
  NARROWER THAN 'FOR EVERY INPUT', by the rows' own cells (each row's printed sentence says how): FnExactFlagsText: laid · FnFlagsText: laid · FnHaveSelf: laid · FnChangeBad: laid.
  DERIVED. THE GIVEN ROWS OF THIS SEAT. 4 by the template 'for every input the law returns true; each argument reads behind the call as it read before'; 0 by the template 'total and deterministic' (their statements: YtjgelgjllhjlcaaDoorTotals.lean).
  GIVEN WITH THE SEED: the statements are not yours to turn. If you find one false, say at which input.
  Laid BY PROGRAM, IN A SANDBOX (cutbox-rows.mjs): the forced cells as the released guide's own fill.sh prints them over the translation c2f08b9216a1551d… (all of the seat's roots in one cut). By AI agents, Wed Nov 11 2026. No macro, syntax, notation, axiom, sorry.
-/
import Derived.Test.YtjgelgjllhjlcaaDoorChecked
import GoSem.Claim
import GoSem.ClaimJoined
import GoSem.ClaimMapViews
import Derived.JoinedTies
import Derived.KernelRfl
namespace Go.Proofs.YtjgelgjllhjlcaaDoor
/- THE CELL 'sum', in the pinned program and in every row, IS THE sha256 OF THE DUMP (.gsa) THAT YtjgelgjllhjlcaaDoorProg.lean LOADS. Nothing in Lean hashes anything: it is a label: what it is worth is what the hold of that sum in a sandbox is worth. -/
noncomputable def Tryd.pinned : Pinned := { name := "ytjgelgjllhjlcaadoor", sum := "c2f08b9216a1551d1efd8b35e85cd26d04cb61b47fae831531ec351c805aa70d", checked := Tryd.checked }
namespace Rows
def none {H : Type} : Left H := { results := [], args := [] }

/- WHAT THE LISTED PACKAGE-LEVEL VARIABLES READ AS WHEN THE CALL BEGINS. Each datum BY PROGRAM (the guide's laid-datum.mjs) off the statement by which the dump's own 'gosem.cut.vars' lays the variable. In a bare row this is a premise. The card (YtjgelgjllhjlcaaDoorCards.lean) ties it to the program's text. -/
def laid_loop_example_mailhost_impl_flagNames {H : Type} : DataW H := .agg [.lit (.string [83, 101, 101, 110]), .lit (.string [65, 110, 115, 119, 101, 114, 101, 100]), .lit (.string [70, 108, 97, 103, 103, 101, 100]), .lit (.string [68, 101, 108, 101, 116, 101, 100]), .lit (.string [68, 114, 97, 102, 116])]

/-- 'laws.FnExactFlagsText': WHATEVER THE INPUT: true; the input reads as it did. -/
def fnExactFlagsTextSpec : ChangeSpec := { name := "fnExactFlagsText", vars := ["loop.example/mailhost/impl.flagNames"], fn := fun _ => fun
  | [d, g1] => { results := [.lit (.bool true)], args := [d], vars := [g1] }
  | _ => none }
def fnExactFlagsTextRow : OpenClaim := { program := "ytjgelgjllhjlcaadoor", sum := "c2f08b9216a1551d1efd8b35e85cd26d04cb61b47fae831531ec351c805aa70d", func := "loop.example/mailhost/laws.FnExactFlagsText", spec := "fnExactFlagsText", inPlace := ["internal/abi.NoEscape", "internal/bytealg.MakeNoZero"], named := ["loop.example/mailhost/impl.flagNames"], apart := false, laid := [("loop.example/mailhost/impl.flagNames", laid_loop_example_mailhost_impl_flagNames)] }
def FnExactFlagsTextSaid : Prop := fnExactFlagsTextRow.holds Tryd.pinned (OpenSpec.ofChange fnExactFlagsTextSpec)

/-- ITS FALSE NEIGHBOUR: 'it returns false'. Refute it at one input. -/
def fnExactFlagsTextWrong : ChangeSpec := { name := "fnExactFlagsText", vars := ["loop.example/mailhost/impl.flagNames"], fn := fun _ => fun
  | [d, g1] => { results := [.lit (.bool false)], args := [d], vars := [g1] }
  | _ => none }
def FnExactFlagsTextWrongFalsely : Prop := fnExactFlagsTextRow.holds Tryd.pinned (OpenSpec.ofChange fnExactFlagsTextWrong)

/-- 'laws.FnFlagsText': WHATEVER THE INPUT: true; the input reads as it did. -/
def fnFlagsTextSpec : ChangeSpec := { name := "fnFlagsText", vars := ["loop.example/mailhost/impl.flagNames"], fn := fun _ => fun
  | [d, g1] => { results := [.lit (.bool true)], args := [d], vars := [g1] }
  | _ => none }
def fnFlagsTextRow : OpenClaim := { program := "ytjgelgjllhjlcaadoor", sum := "c2f08b9216a1551d1efd8b35e85cd26d04cb61b47fae831531ec351c805aa70d", func := "loop.example/mailhost/laws.FnFlagsText", spec := "fnFlagsText", inPlace := ["internal/abi.NoEscape", "internal/bytealg.MakeNoZero"], named := ["loop.example/mailhost/impl.flagNames"], apart := false, laid := [("loop.example/mailhost/impl.flagNames", laid_loop_example_mailhost_impl_flagNames)] }
def FnFlagsTextSaid : Prop := fnFlagsTextRow.holds Tryd.pinned (OpenSpec.ofChange fnFlagsTextSpec)

/-- ITS FALSE NEIGHBOUR: 'it returns false'. Refute it at one input. -/
def fnFlagsTextWrong : ChangeSpec := { name := "fnFlagsText", vars := ["loop.example/mailhost/impl.flagNames"], fn := fun _ => fun
  | [d, g1] => { results := [.lit (.bool false)], args := [d], vars := [g1] }
  | _ => none }
def FnFlagsTextWrongFalsely : Prop := fnFlagsTextRow.holds Tryd.pinned (OpenSpec.ofChange fnFlagsTextWrong)

/-- 'laws.FnHaveSelf': WHATEVER THE INPUT: true; the input reads as it did. -/
def fnHaveSelfSpec : ChangeSpec := { name := "fnHaveSelf", vars := ["loop.example/mailhost/impl.flagNames"], fn := fun _ => fun
  | [d, g1] => { results := [.lit (.bool true)], args := [d], vars := [g1] }
  | _ => none }
def fnHaveSelfRow : OpenClaim := { program := "ytjgelgjllhjlcaadoor", sum := "c2f08b9216a1551d1efd8b35e85cd26d04cb61b47fae831531ec351c805aa70d", func := "loop.example/mailhost/laws.FnHaveSelf", spec := "fnHaveSelf", inPlace := ["internal/abi.NoEscape", "internal/bytealg.MakeNoZero"], named := ["loop.example/mailhost/impl.flagNames"], apart := false, laid := [("loop.example/mailhost/impl.flagNames", laid_loop_example_mailhost_impl_flagNames)] }
def FnHaveSelfSaid : Prop := fnHaveSelfRow.holds Tryd.pinned (OpenSpec.ofChange fnHaveSelfSpec)

/-- ITS FALSE NEIGHBOUR: 'it returns false'. Refute it at one input. -/
def fnHaveSelfWrong : ChangeSpec := { name := "fnHaveSelf", vars := ["loop.example/mailhost/impl.flagNames"], fn := fun _ => fun
  | [d, g1] => { results := [.lit (.bool false)], args := [d], vars := [g1] }
  | _ => none }
def FnHaveSelfWrongFalsely : Prop := fnHaveSelfRow.holds Tryd.pinned (OpenSpec.ofChange fnHaveSelfWrong)

/-- 'laws.FnChangeBad': WHATEVER THE INPUT: true; the input reads as it did. -/
def fnChangeBadSpec : ChangeSpec := { name := "fnChangeBad", vars := ["loop.example/mailhost/impl.flagNames"], fn := fun _ => fun
  | [d, g1] => { results := [.lit (.bool true)], args := [d], vars := [g1] }
  | _ => none }
def fnChangeBadRow : OpenClaim := { program := "ytjgelgjllhjlcaadoor", sum := "c2f08b9216a1551d1efd8b35e85cd26d04cb61b47fae831531ec351c805aa70d", func := "loop.example/mailhost/laws.FnChangeBad", spec := "fnChangeBad", inPlace := ["internal/abi.NoEscape", "internal/bytealg.MakeNoZero"], unfollowed := true, recurses := true, named := ["loop.example/mailhost/impl.flagNames"], apart := false, laid := [("loop.example/mailhost/impl.flagNames", laid_loop_example_mailhost_impl_flagNames)] }
def FnChangeBadSaid : Prop := fnChangeBadRow.holds Tryd.pinned (OpenSpec.ofChange fnChangeBadSpec)

/-- ITS FALSE NEIGHBOUR: 'it returns false'. Refute it at one input. -/
def fnChangeBadWrong : ChangeSpec := { name := "fnChangeBad", vars := ["loop.example/mailhost/impl.flagNames"], fn := fun _ => fun
  | [d, g1] => { results := [.lit (.bool false)], args := [d], vars := [g1] }
  | _ => none }
def FnChangeBadWrongFalsely : Prop := fnChangeBadRow.holds Tryd.pinned (OpenSpec.ofChange fnChangeBadWrong)

/- THE SECOND FORM. 'bulk': how many values and letters a reading holds, each counted each time it is reached (what is shared counts as often as it is met; a slice's spare places count too). A statement '..UptoSaid' is the law's where the arguments, and the package variables that the reading takes, are together of bulk at most 1048576: NARROWER than '..Said'. Prove '..Said' where nothing that the law and all that it calls make is longer than what came in: it says more and counts as full. Else prove '..UptoSaid'. A law counts once. -/
mutual
def uptoBulk {H : Type} : DataW H → Nat
  | .lit (.string bytes) => bytes.length + 1
  | .lit _ => 1
  | .nil => 1
  | .ptr d => uptoBulk d + 1
  | .slice elems spare => uptoBulkAll elems + uptoBulkAll spare + 1
  | .agg parts => uptoBulkAll parts + 1
  | .iface _ d => uptoBulk d + 1
  | .map entries => uptoBulkEntries entries + 1
  | .held _ => 1
def uptoBulkAll {H : Type} : List (DataW H) → Nat
  | [] => 0
  | d :: r => uptoBulk d + uptoBulkAll r
def uptoBulkEntries {H : Type} : List (Lit × DataW H) → Nat
  | [] => 0
  | x :: r => uptoBulkEntry x + uptoBulkEntries r
def uptoBulkEntry {H : Type} : Lit × DataW H → Nat
  | (.string bytes, d) => bytes.length + uptoBulk d + 1
  | (_, d) => uptoBulk d + 1
 end
def uptoSmall : (H : Type) → List (DataW H) → Bool := fun _ ds => decide (uptoBulkAll ds ≤ 1048576)
def OpenSpec.upto (s : _root_.Go.ChangeSpec) : _root_.Go.OpenSpec := { _root_.Go.OpenSpec.ofChange s with cond := some uptoSmall }

/-- 'laws.FnExactFlagsText', WHERE WHAT IT READS IS OF BULK AT MOST 1048576: true; the input reads as it did. -/
def fnExactFlagsTextUptoRow : OpenClaim := { program := "ytjgelgjllhjlcaadoor", sum := "c2f08b9216a1551d1efd8b35e85cd26d04cb61b47fae831531ec351c805aa70d", func := "loop.example/mailhost/laws.FnExactFlagsText", spec := "fnExactFlagsText", inPlace := ["internal/abi.NoEscape", "internal/bytealg.MakeNoZero"], named := ["loop.example/mailhost/impl.flagNames"], apart := false, laid := [("loop.example/mailhost/impl.flagNames", laid_loop_example_mailhost_impl_flagNames)], narrowed := true }
def FnExactFlagsTextUptoSaid : Prop := fnExactFlagsTextUptoRow.holds Tryd.pinned (OpenSpec.upto fnExactFlagsTextSpec)

/-- 'laws.FnFlagsText', WHERE WHAT IT READS IS OF BULK AT MOST 1048576: true; the input reads as it did. -/
def fnFlagsTextUptoRow : OpenClaim := { program := "ytjgelgjllhjlcaadoor", sum := "c2f08b9216a1551d1efd8b35e85cd26d04cb61b47fae831531ec351c805aa70d", func := "loop.example/mailhost/laws.FnFlagsText", spec := "fnFlagsText", inPlace := ["internal/abi.NoEscape", "internal/bytealg.MakeNoZero"], named := ["loop.example/mailhost/impl.flagNames"], apart := false, laid := [("loop.example/mailhost/impl.flagNames", laid_loop_example_mailhost_impl_flagNames)], narrowed := true }
def FnFlagsTextUptoSaid : Prop := fnFlagsTextUptoRow.holds Tryd.pinned (OpenSpec.upto fnFlagsTextSpec)

/-- 'laws.FnHaveSelf', WHERE WHAT IT READS IS OF BULK AT MOST 1048576: true; the input reads as it did. -/
def fnHaveSelfUptoRow : OpenClaim := { program := "ytjgelgjllhjlcaadoor", sum := "c2f08b9216a1551d1efd8b35e85cd26d04cb61b47fae831531ec351c805aa70d", func := "loop.example/mailhost/laws.FnHaveSelf", spec := "fnHaveSelf", inPlace := ["internal/abi.NoEscape", "internal/bytealg.MakeNoZero"], named := ["loop.example/mailhost/impl.flagNames"], apart := false, laid := [("loop.example/mailhost/impl.flagNames", laid_loop_example_mailhost_impl_flagNames)], narrowed := true }
def FnHaveSelfUptoSaid : Prop := fnHaveSelfUptoRow.holds Tryd.pinned (OpenSpec.upto fnHaveSelfSpec)

/-- 'laws.FnChangeBad', WHERE WHAT IT READS IS OF BULK AT MOST 1048576: true; the input reads as it did. -/
def fnChangeBadUptoRow : OpenClaim := { program := "ytjgelgjllhjlcaadoor", sum := "c2f08b9216a1551d1efd8b35e85cd26d04cb61b47fae831531ec351c805aa70d", func := "loop.example/mailhost/laws.FnChangeBad", spec := "fnChangeBad", inPlace := ["internal/abi.NoEscape", "internal/bytealg.MakeNoZero"], unfollowed := true, recurses := true, named := ["loop.example/mailhost/impl.flagNames"], apart := false, laid := [("loop.example/mailhost/impl.flagNames", laid_loop_example_mailhost_impl_flagNames)], narrowed := true }
def FnChangeBadUptoSaid : Prop := fnChangeBadUptoRow.holds Tryd.pinned (OpenSpec.upto fnChangeBadSpec)

end Rows
end Go.Proofs.YtjgelgjllhjlcaaDoor
