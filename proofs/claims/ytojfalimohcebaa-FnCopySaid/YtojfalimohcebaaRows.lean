/-
  No cell of these rows narrows 'for every input' (looked for: loops, veiled, ifaces, maps, wideKeys, modest, calm, conditions, laid).
  DERIVED. THE GIVEN ROWS OF THIS SEAT. 11 by the template 'for every input the law returns true; each argument reads behind the call as it read before'; 0 by the template 'total and deterministic' (their statements: YtojfalimohcebaaTotals.lean).
  GIVEN WITH THE SEED: the statements are not yours to turn. If you find one false, say at which input.
  Laid BY PROGRAM, IN A SANDBOX (cutbox-rows.mjs): the forced cells as the released guide's own fill.sh prints them over the translation 4b05419edb90d61e… (all of the seat's roots in one cut). By AI agents, Wed Nov 11 2026. No macro, syntax, notation, axiom, sorry.
-/
import Derived.Test.YtojfalimohcebaaChecked
import GoSem.Claim
import GoSem.ClaimJoined
import GoSem.ClaimMapViews
import Derived.JoinedTies
import Derived.KernelRfl
namespace Go.Proofs.Ytojfalimohcebaa
/- THE CELL 'sum', in the pinned program and in every row, IS THE sha256 OF THE DUMP (.gsa) THAT YtojfalimohcebaaProg.lean LOADS. Nothing in Lean hashes anything: it is a label: what it is worth is what the hold of that sum in a sandbox is worth. -/
noncomputable def Try.pinned : Pinned := { name := "ytojfalimohcebaa", sum := "4b05419edb90d61edbfaf33ff4f331e8f6ab4fe780215ac252ee2fb02e7594bc", checked := Try.checked }
namespace Rows
def none {H : Type} : Left H := { results := [], args := [] }

/-- 'laws.FnExpunge': WHATEVER THE INPUT: true; the input reads as it did. -/
def fnExpungeSpec : ChangeSpec := { name := "fnExpunge", fn := fun _ => fun
  | [d] => { results := [.lit (.bool true)], args := [d] }
  | _ => none }
def fnExpungeRow : OpenClaim := { program := "ytojfalimohcebaa", sum := "4b05419edb90d61edbfaf33ff4f331e8f6ab4fe780215ac252ee2fb02e7594bc", func := "loop.example/mailhost/laws.FnExpunge", spec := "fnExpunge", apart := false }
def FnExpungeSaid : Prop := fnExpungeRow.holds Try.pinned (OpenSpec.ofChange fnExpungeSpec)

/-- ITS FALSE NEIGHBOUR: 'it returns false'. Refute it at one input. -/
def fnExpungeWrong : ChangeSpec := { name := "fnExpunge", fn := fun _ => fun
  | [d] => { results := [.lit (.bool false)], args := [d] }
  | _ => none }
def FnExpungeWrongFalsely : Prop := fnExpungeRow.holds Try.pinned (OpenSpec.ofChange fnExpungeWrong)

/-- 'laws.FnExpungeNumbers': WHATEVER THE INPUT: true; the input reads as it did. -/
def fnExpungeNumbersSpec : ChangeSpec := { name := "fnExpungeNumbers", fn := fun _ => fun
  | [d] => { results := [.lit (.bool true)], args := [d] }
  | _ => none }
def fnExpungeNumbersRow : OpenClaim := { program := "ytojfalimohcebaa", sum := "4b05419edb90d61edbfaf33ff4f331e8f6ab4fe780215ac252ee2fb02e7594bc", func := "loop.example/mailhost/laws.FnExpungeNumbers", spec := "fnExpungeNumbers", apart := false }
def FnExpungeNumbersSaid : Prop := fnExpungeNumbersRow.holds Try.pinned (OpenSpec.ofChange fnExpungeNumbersSpec)

/-- ITS FALSE NEIGHBOUR: 'it returns false'. Refute it at one input. -/
def fnExpungeNumbersWrong : ChangeSpec := { name := "fnExpungeNumbers", fn := fun _ => fun
  | [d] => { results := [.lit (.bool false)], args := [d] }
  | _ => none }
def FnExpungeNumbersWrongFalsely : Prop := fnExpungeNumbersRow.holds Try.pinned (OpenSpec.ofChange fnExpungeNumbersWrong)

/-- 'laws.FnExpungeTwice': WHATEVER THE INPUT: true; the input reads as it did. -/
def fnExpungeTwiceSpec : ChangeSpec := { name := "fnExpungeTwice", fn := fun _ => fun
  | [d] => { results := [.lit (.bool true)], args := [d] }
  | _ => none }
def fnExpungeTwiceRow : OpenClaim := { program := "ytojfalimohcebaa", sum := "4b05419edb90d61edbfaf33ff4f331e8f6ab4fe780215ac252ee2fb02e7594bc", func := "loop.example/mailhost/laws.FnExpungeTwice", spec := "fnExpungeTwice", apart := false }
def FnExpungeTwiceSaid : Prop := fnExpungeTwiceRow.holds Try.pinned (OpenSpec.ofChange fnExpungeTwiceSpec)

/-- ITS FALSE NEIGHBOUR: 'it returns false'. Refute it at one input. -/
def fnExpungeTwiceWrong : ChangeSpec := { name := "fnExpungeTwice", fn := fun _ => fun
  | [d] => { results := [.lit (.bool false)], args := [d] }
  | _ => none }
def FnExpungeTwiceWrongFalsely : Prop := fnExpungeTwiceRow.holds Try.pinned (OpenSpec.ofChange fnExpungeTwiceWrong)

/-- 'laws.FnExpungeNext': WHATEVER THE INPUT: true; the input reads as it did. -/
def fnExpungeNextSpec : ChangeSpec := { name := "fnExpungeNext", fn := fun _ => fun
  | [d] => { results := [.lit (.bool true)], args := [d] }
  | _ => none }
def fnExpungeNextRow : OpenClaim := { program := "ytojfalimohcebaa", sum := "4b05419edb90d61edbfaf33ff4f331e8f6ab4fe780215ac252ee2fb02e7594bc", func := "loop.example/mailhost/laws.FnExpungeNext", spec := "fnExpungeNext", apart := false }
def FnExpungeNextSaid : Prop := fnExpungeNextRow.holds Try.pinned (OpenSpec.ofChange fnExpungeNextSpec)

/-- ITS FALSE NEIGHBOUR: 'it returns false'. Refute it at one input. -/
def fnExpungeNextWrong : ChangeSpec := { name := "fnExpungeNext", fn := fun _ => fun
  | [d] => { results := [.lit (.bool false)], args := [d] }
  | _ => none }
def FnExpungeNextWrongFalsely : Prop := fnExpungeNextRow.holds Try.pinned (OpenSpec.ofChange fnExpungeNextWrong)

/-- 'laws.FnExpungeKept': WHATEVER THE INPUT: true; the input reads as it did. -/
def fnExpungeKeptSpec : ChangeSpec := { name := "fnExpungeKept", fn := fun _ => fun
  | [d] => { results := [.lit (.bool true)], args := [d] }
  | _ => none }
def fnExpungeKeptRow : OpenClaim := { program := "ytojfalimohcebaa", sum := "4b05419edb90d61edbfaf33ff4f331e8f6ab4fe780215ac252ee2fb02e7594bc", func := "loop.example/mailhost/laws.FnExpungeKept", spec := "fnExpungeKept", unfollowed := true, recurses := true, apart := false }
def FnExpungeKeptSaid : Prop := fnExpungeKeptRow.holds Try.pinned (OpenSpec.ofChange fnExpungeKeptSpec)

/-- ITS FALSE NEIGHBOUR: 'it returns false'. Refute it at one input. -/
def fnExpungeKeptWrong : ChangeSpec := { name := "fnExpungeKept", fn := fun _ => fun
  | [d] => { results := [.lit (.bool false)], args := [d] }
  | _ => none }
def FnExpungeKeptWrongFalsely : Prop := fnExpungeKeptRow.holds Try.pinned (OpenSpec.ofChange fnExpungeKeptWrong)

/-- 'laws.FnCopy': WHATEVER THE INPUT: true; the input reads as it did. -/
def fnCopySpec : ChangeSpec := { name := "fnCopy", fn := fun _ => fun
  | [d] => { results := [.lit (.bool true)], args := [d] }
  | _ => none }
def fnCopyRow : OpenClaim := { program := "ytojfalimohcebaa", sum := "4b05419edb90d61edbfaf33ff4f331e8f6ab4fe780215ac252ee2fb02e7594bc", func := "loop.example/mailhost/laws.FnCopy", spec := "fnCopy", apart := false }
def FnCopySaid : Prop := fnCopyRow.holds Try.pinned (OpenSpec.ofChange fnCopySpec)

/-- ITS FALSE NEIGHBOUR: 'it returns false'. Refute it at one input. -/
def fnCopyWrong : ChangeSpec := { name := "fnCopy", fn := fun _ => fun
  | [d] => { results := [.lit (.bool false)], args := [d] }
  | _ => none }
def FnCopyWrongFalsely : Prop := fnCopyRow.holds Try.pinned (OpenSpec.ofChange fnCopyWrong)

/-- 'laws.FnCopyFull': WHATEVER THE INPUT: true; the input reads as it did. -/
def fnCopyFullSpec : ChangeSpec := { name := "fnCopyFull", fn := fun _ => fun
  | [d] => { results := [.lit (.bool true)], args := [d] }
  | _ => none }
def fnCopyFullRow : OpenClaim := { program := "ytojfalimohcebaa", sum := "4b05419edb90d61edbfaf33ff4f331e8f6ab4fe780215ac252ee2fb02e7594bc", func := "loop.example/mailhost/laws.FnCopyFull", spec := "fnCopyFull", apart := false }
def FnCopyFullSaid : Prop := fnCopyFullRow.holds Try.pinned (OpenSpec.ofChange fnCopyFullSpec)

/-- ITS FALSE NEIGHBOUR: 'it returns false'. Refute it at one input. -/
def fnCopyFullWrong : ChangeSpec := { name := "fnCopyFull", fn := fun _ => fun
  | [d] => { results := [.lit (.bool false)], args := [d] }
  | _ => none }
def FnCopyFullWrongFalsely : Prop := fnCopyFullRow.holds Try.pinned (OpenSpec.ofChange fnCopyFullWrong)

/-- 'laws.FnCopyNone': WHATEVER THE INPUT: true; the input reads as it did. -/
def fnCopyNoneSpec : ChangeSpec := { name := "fnCopyNone", fn := fun _ => fun
  | [d] => { results := [.lit (.bool true)], args := [d] }
  | _ => none }
def fnCopyNoneRow : OpenClaim := { program := "ytojfalimohcebaa", sum := "4b05419edb90d61edbfaf33ff4f331e8f6ab4fe780215ac252ee2fb02e7594bc", func := "loop.example/mailhost/laws.FnCopyNone", spec := "fnCopyNone", apart := false }
def FnCopyNoneSaid : Prop := fnCopyNoneRow.holds Try.pinned (OpenSpec.ofChange fnCopyNoneSpec)

/-- ITS FALSE NEIGHBOUR: 'it returns false'. Refute it at one input. -/
def fnCopyNoneWrong : ChangeSpec := { name := "fnCopyNone", fn := fun _ => fun
  | [d] => { results := [.lit (.bool false)], args := [d] }
  | _ => none }
def FnCopyNoneWrongFalsely : Prop := fnCopyNoneRow.holds Try.pinned (OpenSpec.ofChange fnCopyNoneWrong)

/-- 'laws.FnBoxFlagsNone': WHATEVER THE INPUT: true; the input reads as it did. -/
def fnBoxFlagsNoneSpec : ChangeSpec := { name := "fnBoxFlagsNone", fn := fun _ => fun
  | [d] => { results := [.lit (.bool true)], args := [d] }
  | _ => none }
def fnBoxFlagsNoneRow : OpenClaim := { program := "ytojfalimohcebaa", sum := "4b05419edb90d61edbfaf33ff4f331e8f6ab4fe780215ac252ee2fb02e7594bc", func := "loop.example/mailhost/laws.FnBoxFlagsNone", spec := "fnBoxFlagsNone", unfollowed := true, recurses := true, apart := false }
def FnBoxFlagsNoneSaid : Prop := fnBoxFlagsNoneRow.holds Try.pinned (OpenSpec.ofChange fnBoxFlagsNoneSpec)

/-- ITS FALSE NEIGHBOUR: 'it returns false'. Refute it at one input. -/
def fnBoxFlagsNoneWrong : ChangeSpec := { name := "fnBoxFlagsNone", fn := fun _ => fun
  | [d] => { results := [.lit (.bool false)], args := [d] }
  | _ => none }
def FnBoxFlagsNoneWrongFalsely : Prop := fnBoxFlagsNoneRow.holds Try.pinned (OpenSpec.ofChange fnBoxFlagsNoneWrong)

/-- 'laws.FnBoxFlagsTwice': WHATEVER THE INPUT: true; the input reads as it did. -/
def fnBoxFlagsTwiceSpec : ChangeSpec := { name := "fnBoxFlagsTwice", fn := fun _ => fun
  | [d] => { results := [.lit (.bool true)], args := [d] }
  | _ => none }
def fnBoxFlagsTwiceRow : OpenClaim := { program := "ytojfalimohcebaa", sum := "4b05419edb90d61edbfaf33ff4f331e8f6ab4fe780215ac252ee2fb02e7594bc", func := "loop.example/mailhost/laws.FnBoxFlagsTwice", spec := "fnBoxFlagsTwice", unfollowed := true, recurses := true, apart := false }
def FnBoxFlagsTwiceSaid : Prop := fnBoxFlagsTwiceRow.holds Try.pinned (OpenSpec.ofChange fnBoxFlagsTwiceSpec)

/-- ITS FALSE NEIGHBOUR: 'it returns false'. Refute it at one input. -/
def fnBoxFlagsTwiceWrong : ChangeSpec := { name := "fnBoxFlagsTwice", fn := fun _ => fun
  | [d] => { results := [.lit (.bool false)], args := [d] }
  | _ => none }
def FnBoxFlagsTwiceWrongFalsely : Prop := fnBoxFlagsTwiceRow.holds Try.pinned (OpenSpec.ofChange fnBoxFlagsTwiceWrong)

/-- 'laws.FnBoxFlags': WHATEVER THE INPUT: true; the input reads as it did. -/
def fnBoxFlagsSpec : ChangeSpec := { name := "fnBoxFlags", fn := fun _ => fun
  | [d] => { results := [.lit (.bool true)], args := [d] }
  | _ => none }
def fnBoxFlagsRow : OpenClaim := { program := "ytojfalimohcebaa", sum := "4b05419edb90d61edbfaf33ff4f331e8f6ab4fe780215ac252ee2fb02e7594bc", func := "loop.example/mailhost/laws.FnBoxFlags", spec := "fnBoxFlags", unfollowed := true, recurses := true, apart := false }
def FnBoxFlagsSaid : Prop := fnBoxFlagsRow.holds Try.pinned (OpenSpec.ofChange fnBoxFlagsSpec)

/-- ITS FALSE NEIGHBOUR: 'it returns false'. Refute it at one input. -/
def fnBoxFlagsWrong : ChangeSpec := { name := "fnBoxFlags", fn := fun _ => fun
  | [d] => { results := [.lit (.bool false)], args := [d] }
  | _ => none }
def FnBoxFlagsWrongFalsely : Prop := fnBoxFlagsRow.holds Try.pinned (OpenSpec.ofChange fnBoxFlagsWrong)

/- THE SECOND FORM. 'bulk': how many values and letters a reading holds, each counted each time it is reached (what is shared counts as often as it is met; a slice's spare places count too). A statement '..UptoSaid' is the law's where the arguments, and the package variables that the reading takes, are together of bulk at most 1048576: NARROWER than '..Said'. Prove '..Said' where nothing that the law and all that it calls make is longer than what came in: it says more and counts as full. Else prove '..UptoSaid'. A law counts once. -/
mutual
def uptoBulk {H : Type} : DataW H → Nat
  | .lit (.string bytes) => bytes.length + 1
  | .lit _ => 1
  | .nil => 1
  | .ptr d => uptoBulk d + 1
  | .slice elems spare => uptoBulkAll elems + uptoBulkAll spare + 1
  | .agg parts => uptoBulkAll parts + 1
  | .iface _ d => uptoBulk d + 1
  | .map entries => uptoBulkEntries entries + 1
  | .held _ => 1
def uptoBulkAll {H : Type} : List (DataW H) → Nat
  | [] => 0
  | d :: r => uptoBulk d + uptoBulkAll r
def uptoBulkEntries {H : Type} : List (Lit × DataW H) → Nat
  | [] => 0
  | x :: r => uptoBulkEntry x + uptoBulkEntries r
def uptoBulkEntry {H : Type} : Lit × DataW H → Nat
  | (.string bytes, d) => bytes.length + uptoBulk d + 1
  | (_, d) => uptoBulk d + 1
 end
def uptoSmall : (H : Type) → List (DataW H) → Bool := fun _ ds => decide (uptoBulkAll ds ≤ 1048576)
def OpenSpec.upto (s : _root_.Go.ChangeSpec) : _root_.Go.OpenSpec := { _root_.Go.OpenSpec.ofChange s with cond := some uptoSmall }

/-- 'laws.FnExpunge', WHERE WHAT IT READS IS OF BULK AT MOST 1048576: true; the input reads as it did. -/
def fnExpungeUptoRow : OpenClaim := { program := "ytojfalimohcebaa", sum := "4b05419edb90d61edbfaf33ff4f331e8f6ab4fe780215ac252ee2fb02e7594bc", func := "loop.example/mailhost/laws.FnExpunge", spec := "fnExpunge", apart := false, narrowed := true }
def FnExpungeUptoSaid : Prop := fnExpungeUptoRow.holds Try.pinned (OpenSpec.upto fnExpungeSpec)

/-- 'laws.FnExpungeNumbers', WHERE WHAT IT READS IS OF BULK AT MOST 1048576: true; the input reads as it did. -/
def fnExpungeNumbersUptoRow : OpenClaim := { program := "ytojfalimohcebaa", sum := "4b05419edb90d61edbfaf33ff4f331e8f6ab4fe780215ac252ee2fb02e7594bc", func := "loop.example/mailhost/laws.FnExpungeNumbers", spec := "fnExpungeNumbers", apart := false, narrowed := true }
def FnExpungeNumbersUptoSaid : Prop := fnExpungeNumbersUptoRow.holds Try.pinned (OpenSpec.upto fnExpungeNumbersSpec)

/-- 'laws.FnExpungeTwice', WHERE WHAT IT READS IS OF BULK AT MOST 1048576: true; the input reads as it did. -/
def fnExpungeTwiceUptoRow : OpenClaim := { program := "ytojfalimohcebaa", sum := "4b05419edb90d61edbfaf33ff4f331e8f6ab4fe780215ac252ee2fb02e7594bc", func := "loop.example/mailhost/laws.FnExpungeTwice", spec := "fnExpungeTwice", apart := false, narrowed := true }
def FnExpungeTwiceUptoSaid : Prop := fnExpungeTwiceUptoRow.holds Try.pinned (OpenSpec.upto fnExpungeTwiceSpec)

/-- 'laws.FnExpungeNext', WHERE WHAT IT READS IS OF BULK AT MOST 1048576: true; the input reads as it did. -/
def fnExpungeNextUptoRow : OpenClaim := { program := "ytojfalimohcebaa", sum := "4b05419edb90d61edbfaf33ff4f331e8f6ab4fe780215ac252ee2fb02e7594bc", func := "loop.example/mailhost/laws.FnExpungeNext", spec := "fnExpungeNext", apart := false, narrowed := true }
def FnExpungeNextUptoSaid : Prop := fnExpungeNextUptoRow.holds Try.pinned (OpenSpec.upto fnExpungeNextSpec)

/-- 'laws.FnExpungeKept', WHERE WHAT IT READS IS OF BULK AT MOST 1048576: true; the input reads as it did. -/
def fnExpungeKeptUptoRow : OpenClaim := { program := "ytojfalimohcebaa", sum := "4b05419edb90d61edbfaf33ff4f331e8f6ab4fe780215ac252ee2fb02e7594bc", func := "loop.example/mailhost/laws.FnExpungeKept", spec := "fnExpungeKept", unfollowed := true, recurses := true, apart := false, narrowed := true }
def FnExpungeKeptUptoSaid : Prop := fnExpungeKeptUptoRow.holds Try.pinned (OpenSpec.upto fnExpungeKeptSpec)

/-- 'laws.FnCopy', WHERE WHAT IT READS IS OF BULK AT MOST 1048576: true; the input reads as it did. -/
def fnCopyUptoRow : OpenClaim := { program := "ytojfalimohcebaa", sum := "4b05419edb90d61edbfaf33ff4f331e8f6ab4fe780215ac252ee2fb02e7594bc", func := "loop.example/mailhost/laws.FnCopy", spec := "fnCopy", apart := false, narrowed := true }
def FnCopyUptoSaid : Prop := fnCopyUptoRow.holds Try.pinned (OpenSpec.upto fnCopySpec)

/-- 'laws.FnCopyFull', WHERE WHAT IT READS IS OF BULK AT MOST 1048576: true; the input reads as it did. -/
def fnCopyFullUptoRow : OpenClaim := { program := "ytojfalimohcebaa", sum := "4b05419edb90d61edbfaf33ff4f331e8f6ab4fe780215ac252ee2fb02e7594bc", func := "loop.example/mailhost/laws.FnCopyFull", spec := "fnCopyFull", apart := false, narrowed := true }
def FnCopyFullUptoSaid : Prop := fnCopyFullUptoRow.holds Try.pinned (OpenSpec.upto fnCopyFullSpec)

/-- 'laws.FnCopyNone', WHERE WHAT IT READS IS OF BULK AT MOST 1048576: true; the input reads as it did. -/
def fnCopyNoneUptoRow : OpenClaim := { program := "ytojfalimohcebaa", sum := "4b05419edb90d61edbfaf33ff4f331e8f6ab4fe780215ac252ee2fb02e7594bc", func := "loop.example/mailhost/laws.FnCopyNone", spec := "fnCopyNone", apart := false, narrowed := true }
def FnCopyNoneUptoSaid : Prop := fnCopyNoneUptoRow.holds Try.pinned (OpenSpec.upto fnCopyNoneSpec)

/-- 'laws.FnBoxFlagsNone', WHERE WHAT IT READS IS OF BULK AT MOST 1048576: true; the input reads as it did. -/
def fnBoxFlagsNoneUptoRow : OpenClaim := { program := "ytojfalimohcebaa", sum := "4b05419edb90d61edbfaf33ff4f331e8f6ab4fe780215ac252ee2fb02e7594bc", func := "loop.example/mailhost/laws.FnBoxFlagsNone", spec := "fnBoxFlagsNone", unfollowed := true, recurses := true, apart := false, narrowed := true }
def FnBoxFlagsNoneUptoSaid : Prop := fnBoxFlagsNoneUptoRow.holds Try.pinned (OpenSpec.upto fnBoxFlagsNoneSpec)

/-- 'laws.FnBoxFlagsTwice', WHERE WHAT IT READS IS OF BULK AT MOST 1048576: true; the input reads as it did. -/
def fnBoxFlagsTwiceUptoRow : OpenClaim := { program := "ytojfalimohcebaa", sum := "4b05419edb90d61edbfaf33ff4f331e8f6ab4fe780215ac252ee2fb02e7594bc", func := "loop.example/mailhost/laws.FnBoxFlagsTwice", spec := "fnBoxFlagsTwice", unfollowed := true, recurses := true, apart := false, narrowed := true }
def FnBoxFlagsTwiceUptoSaid : Prop := fnBoxFlagsTwiceUptoRow.holds Try.pinned (OpenSpec.upto fnBoxFlagsTwiceSpec)

/-- 'laws.FnBoxFlags', WHERE WHAT IT READS IS OF BULK AT MOST 1048576: true; the input reads as it did. -/
def fnBoxFlagsUptoRow : OpenClaim := { program := "ytojfalimohcebaa", sum := "4b05419edb90d61edbfaf33ff4f331e8f6ab4fe780215ac252ee2fb02e7594bc", func := "loop.example/mailhost/laws.FnBoxFlags", spec := "fnBoxFlags", unfollowed := true, recurses := true, apart := false, narrowed := true }
def FnBoxFlagsUptoSaid : Prop := fnBoxFlagsUptoRow.holds Try.pinned (OpenSpec.upto fnBoxFlagsSpec)

end Rows
end Go.Proofs.Ytojfalimohcebaa
