/-
  No cell of these rows narrows 'for every input' (looked for: loops, veiled, ifaces, maps, wideKeys, modest, calm, conditions, laid).
  DERIVED. THE GIVEN ROWS OF THIS SEAT. 12 by the template 'for every input the law returns true; each argument reads behind the call as it read before'; 0 by the template 'total and deterministic' (their statements: YtdnogbneajloeaaTotals.lean).
  GIVEN WITH THE SEED: the statements are not yours to turn. If you find one false, say at which input.
  Laid BY PROGRAM, IN A SANDBOX (cutbox-rows.mjs): the forced cells as the released guide's own fill.sh prints them over the translation 48324cc6733d35fe… (all of the seat's roots in one cut). By AI agents, Wed Nov 11 2026. No macro, syntax, notation, axiom, sorry.
-/
import Derived.Test.YtdnogbneajloeaaChecked
import GoSem.Claim
import GoSem.ClaimJoined
import GoSem.ClaimMapViews
import Derived.JoinedTies
import Derived.KernelRfl
namespace Go.Proofs.Ytdnogbneajloeaa
/- THE CELL 'sum', in the pinned program and in every row, IS THE sha256 OF THE DUMP (.gsa) THAT YtdnogbneajloeaaProg.lean LOADS. Nothing in Lean hashes anything: it is a label: what it is worth is what the hold of that sum in a sandbox is worth. -/
noncomputable def Try.pinned : Pinned := { name := "ytdnogbneajloeaa", sum := "48324cc6733d35fe35dbc168a759c0949b665623e19e46afb10fb6b9ecba2bc3", checked := Try.checked }
namespace Rows
def none {H : Type} : Left H := { results := [], args := [] }

/-- 'laws.FnExactBoxValid': WHATEVER THE INPUT: true; the input reads as it did. -/
def fnExactBoxValidSpec : ChangeSpec := { name := "fnExactBoxValid", fn := fun _ => fun
  | [d] => { results := [.lit (.bool true)], args := [d] }
  | _ => none }
def fnExactBoxValidRow : OpenClaim := { program := "ytdnogbneajloeaa", sum := "48324cc6733d35fe35dbc168a759c0949b665623e19e46afb10fb6b9ecba2bc3", func := "loop.example/mailhost/laws.FnExactBoxValid", spec := "fnExactBoxValid", apart := false }
def FnExactBoxValidSaid : Prop := fnExactBoxValidRow.holds Try.pinned (OpenSpec.ofChange fnExactBoxValidSpec)

/-- ITS FALSE NEIGHBOUR: 'it returns false'. Refute it at one input. -/
def fnExactBoxValidWrong : ChangeSpec := { name := "fnExactBoxValid", fn := fun _ => fun
  | [d] => { results := [.lit (.bool false)], args := [d] }
  | _ => none }
def FnExactBoxValidWrongFalsely : Prop := fnExactBoxValidRow.holds Try.pinned (OpenSpec.ofChange fnExactBoxValidWrong)

/-- 'laws.FnExactBoxSize': WHATEVER THE INPUT: true; the input reads as it did. -/
def fnExactBoxSizeSpec : ChangeSpec := { name := "fnExactBoxSize", fn := fun _ => fun
  | [d] => { results := [.lit (.bool true)], args := [d] }
  | _ => none }
def fnExactBoxSizeRow : OpenClaim := { program := "ytdnogbneajloeaa", sum := "48324cc6733d35fe35dbc168a759c0949b665623e19e46afb10fb6b9ecba2bc3", func := "loop.example/mailhost/laws.FnExactBoxSize", spec := "fnExactBoxSize", apart := false }
def FnExactBoxSizeSaid : Prop := fnExactBoxSizeRow.holds Try.pinned (OpenSpec.ofChange fnExactBoxSizeSpec)

/-- ITS FALSE NEIGHBOUR: 'it returns false'. Refute it at one input. -/
def fnExactBoxSizeWrong : ChangeSpec := { name := "fnExactBoxSize", fn := fun _ => fun
  | [d] => { results := [.lit (.bool false)], args := [d] }
  | _ => none }
def FnExactBoxSizeWrongFalsely : Prop := fnExactBoxSizeRow.holds Try.pinned (OpenSpec.ofChange fnExactBoxSizeWrong)

/-- 'laws.FnBoxNext': WHATEVER THE INPUT: true; the input reads as it did. -/
def fnBoxNextSpec : ChangeSpec := { name := "fnBoxNext", fn := fun _ => fun
  | [d1, d2] => { results := [.lit (.bool true)], args := [d1, d2] }
  | _ => none }
def fnBoxNextRow : OpenClaim := { program := "ytdnogbneajloeaa", sum := "48324cc6733d35fe35dbc168a759c0949b665623e19e46afb10fb6b9ecba2bc3", func := "loop.example/mailhost/laws.FnBoxNext", spec := "fnBoxNext", apart := false }
def FnBoxNextSaid : Prop := fnBoxNextRow.holds Try.pinned (OpenSpec.ofChange fnBoxNextSpec)

/-- ITS FALSE NEIGHBOUR: 'it returns false'. Refute it at one input. -/
def fnBoxNextWrong : ChangeSpec := { name := "fnBoxNext", fn := fun _ => fun
  | [d1, d2] => { results := [.lit (.bool false)], args := [d1, d2] }
  | _ => none }
def FnBoxNextWrongFalsely : Prop := fnBoxNextRow.holds Try.pinned (OpenSpec.ofChange fnBoxNextWrong)

/-- 'laws.FnBoxOrder': WHATEVER THE INPUT: true; the input reads as it did. -/
def fnBoxOrderSpec : ChangeSpec := { name := "fnBoxOrder", fn := fun _ => fun
  | [d] => { results := [.lit (.bool true)], args := [d] }
  | _ => none }
def fnBoxOrderRow : OpenClaim := { program := "ytdnogbneajloeaa", sum := "48324cc6733d35fe35dbc168a759c0949b665623e19e46afb10fb6b9ecba2bc3", func := "loop.example/mailhost/laws.FnBoxOrder", spec := "fnBoxOrder", apart := false }
def FnBoxOrderSaid : Prop := fnBoxOrderRow.holds Try.pinned (OpenSpec.ofChange fnBoxOrderSpec)

/-- ITS FALSE NEIGHBOUR: 'it returns false'. Refute it at one input. -/
def fnBoxOrderWrong : ChangeSpec := { name := "fnBoxOrder", fn := fun _ => fun
  | [d] => { results := [.lit (.bool false)], args := [d] }
  | _ => none }
def FnBoxOrderWrongFalsely : Prop := fnBoxOrderRow.holds Try.pinned (OpenSpec.ofChange fnBoxOrderWrong)

/-- 'laws.FnBoxPart': WHATEVER THE INPUT: true; the input reads as it did. -/
def fnBoxPartSpec : ChangeSpec := { name := "fnBoxPart", fn := fun _ => fun
  | [d1, d2] => { results := [.lit (.bool true)], args := [d1, d2] }
  | _ => none }
def fnBoxPartRow : OpenClaim := { program := "ytdnogbneajloeaa", sum := "48324cc6733d35fe35dbc168a759c0949b665623e19e46afb10fb6b9ecba2bc3", func := "loop.example/mailhost/laws.FnBoxPart", spec := "fnBoxPart", apart := false }
def FnBoxPartSaid : Prop := fnBoxPartRow.holds Try.pinned (OpenSpec.ofChange fnBoxPartSpec)

/-- ITS FALSE NEIGHBOUR: 'it returns false'. Refute it at one input. -/
def fnBoxPartWrong : ChangeSpec := { name := "fnBoxPart", fn := fun _ => fun
  | [d1, d2] => { results := [.lit (.bool false)], args := [d1, d2] }
  | _ => none }
def FnBoxPartWrongFalsely : Prop := fnBoxPartRow.holds Try.pinned (OpenSpec.ofChange fnBoxPartWrong)

/-- 'laws.FnSizeParts': WHATEVER THE INPUT: true; the input reads as it did. -/
def fnSizePartsSpec : ChangeSpec := { name := "fnSizeParts", fn := fun _ => fun
  | [d1, d2] => { results := [.lit (.bool true)], args := [d1, d2] }
  | _ => none }
def fnSizePartsRow : OpenClaim := { program := "ytdnogbneajloeaa", sum := "48324cc6733d35fe35dbc168a759c0949b665623e19e46afb10fb6b9ecba2bc3", func := "loop.example/mailhost/laws.FnSizeParts", spec := "fnSizeParts", apart := false }
def FnSizePartsSaid : Prop := fnSizePartsRow.holds Try.pinned (OpenSpec.ofChange fnSizePartsSpec)

/-- ITS FALSE NEIGHBOUR: 'it returns false'. Refute it at one input. -/
def fnSizePartsWrong : ChangeSpec := { name := "fnSizeParts", fn := fun _ => fun
  | [d1, d2] => { results := [.lit (.bool false)], args := [d1, d2] }
  | _ => none }
def FnSizePartsWrongFalsely : Prop := fnSizePartsRow.holds Try.pinned (OpenSpec.ofChange fnSizePartsWrong)

/-- 'laws.FnAppend': WHATEVER THE INPUT: true; the input reads as it did. -/
def fnAppendSpec : ChangeSpec := { name := "fnAppend", fn := fun _ => fun
  | [d] => { results := [.lit (.bool true)], args := [d] }
  | _ => none }
def fnAppendRow : OpenClaim := { program := "ytdnogbneajloeaa", sum := "48324cc6733d35fe35dbc168a759c0949b665623e19e46afb10fb6b9ecba2bc3", func := "loop.example/mailhost/laws.FnAppend", spec := "fnAppend", apart := false }
def FnAppendSaid : Prop := fnAppendRow.holds Try.pinned (OpenSpec.ofChange fnAppendSpec)

/-- ITS FALSE NEIGHBOUR: 'it returns false'. Refute it at one input. -/
def fnAppendWrong : ChangeSpec := { name := "fnAppend", fn := fun _ => fun
  | [d] => { results := [.lit (.bool false)], args := [d] }
  | _ => none }
def FnAppendWrongFalsely : Prop := fnAppendRow.holds Try.pinned (OpenSpec.ofChange fnAppendWrong)

/-- 'laws.FnAppendOld': WHATEVER THE INPUT: true; the input reads as it did. -/
def fnAppendOldSpec : ChangeSpec := { name := "fnAppendOld", fn := fun _ => fun
  | [d] => { results := [.lit (.bool true)], args := [d] }
  | _ => none }
def fnAppendOldRow : OpenClaim := { program := "ytdnogbneajloeaa", sum := "48324cc6733d35fe35dbc168a759c0949b665623e19e46afb10fb6b9ecba2bc3", func := "loop.example/mailhost/laws.FnAppendOld", spec := "fnAppendOld", apart := false }
def FnAppendOldSaid : Prop := fnAppendOldRow.holds Try.pinned (OpenSpec.ofChange fnAppendOldSpec)

/-- ITS FALSE NEIGHBOUR: 'it returns false'. Refute it at one input. -/
def fnAppendOldWrong : ChangeSpec := { name := "fnAppendOld", fn := fun _ => fun
  | [d] => { results := [.lit (.bool false)], args := [d] }
  | _ => none }
def FnAppendOldWrongFalsely : Prop := fnAppendOldRow.holds Try.pinned (OpenSpec.ofChange fnAppendOldWrong)

/-- 'laws.FnUidsAll': WHATEVER THE INPUT: true; the input reads as it did. -/
def fnUidsAllSpec : ChangeSpec := { name := "fnUidsAll", fn := fun _ => fun
  | [d] => { results := [.lit (.bool true)], args := [d] }
  | _ => none }
def fnUidsAllRow : OpenClaim := { program := "ytdnogbneajloeaa", sum := "48324cc6733d35fe35dbc168a759c0949b665623e19e46afb10fb6b9ecba2bc3", func := "loop.example/mailhost/laws.FnUidsAll", spec := "fnUidsAll", apart := false }
def FnUidsAllSaid : Prop := fnUidsAllRow.holds Try.pinned (OpenSpec.ofChange fnUidsAllSpec)

/-- ITS FALSE NEIGHBOUR: 'it returns false'. Refute it at one input. -/
def fnUidsAllWrong : ChangeSpec := { name := "fnUidsAll", fn := fun _ => fun
  | [d] => { results := [.lit (.bool false)], args := [d] }
  | _ => none }
def FnUidsAllWrongFalsely : Prop := fnUidsAllRow.holds Try.pinned (OpenSpec.ofChange fnUidsAllWrong)

/-- 'laws.FnUids': WHATEVER THE INPUT: true; the input reads as it did. -/
def fnUidsSpec : ChangeSpec := { name := "fnUids", fn := fun _ => fun
  | [d] => { results := [.lit (.bool true)], args := [d] }
  | _ => none }
def fnUidsRow : OpenClaim := { program := "ytdnogbneajloeaa", sum := "48324cc6733d35fe35dbc168a759c0949b665623e19e46afb10fb6b9ecba2bc3", func := "loop.example/mailhost/laws.FnUids", spec := "fnUids", apart := false }
def FnUidsSaid : Prop := fnUidsRow.holds Try.pinned (OpenSpec.ofChange fnUidsSpec)

/-- ITS FALSE NEIGHBOUR: 'it returns false'. Refute it at one input. -/
def fnUidsWrong : ChangeSpec := { name := "fnUids", fn := fun _ => fun
  | [d] => { results := [.lit (.bool false)], args := [d] }
  | _ => none }
def FnUidsWrongFalsely : Prop := fnUidsRow.holds Try.pinned (OpenSpec.ofChange fnUidsWrong)

/-- 'laws.FnSize': WHATEVER THE INPUT: true; the input reads as it did. -/
def fnSizeSpec : ChangeSpec := { name := "fnSize", fn := fun _ => fun
  | [d] => { results := [.lit (.bool true)], args := [d] }
  | _ => none }
def fnSizeRow : OpenClaim := { program := "ytdnogbneajloeaa", sum := "48324cc6733d35fe35dbc168a759c0949b665623e19e46afb10fb6b9ecba2bc3", func := "loop.example/mailhost/laws.FnSize", spec := "fnSize", apart := false }
def FnSizeSaid : Prop := fnSizeRow.holds Try.pinned (OpenSpec.ofChange fnSizeSpec)

/-- ITS FALSE NEIGHBOUR: 'it returns false'. Refute it at one input. -/
def fnSizeWrong : ChangeSpec := { name := "fnSize", fn := fun _ => fun
  | [d] => { results := [.lit (.bool false)], args := [d] }
  | _ => none }
def FnSizeWrongFalsely : Prop := fnSizeRow.holds Try.pinned (OpenSpec.ofChange fnSizeWrong)

/-- 'laws.FnAppendFull': WHATEVER THE INPUT: true; the input reads as it did. -/
def fnAppendFullSpec : ChangeSpec := { name := "fnAppendFull", fn := fun _ => fun
  | [d] => { results := [.lit (.bool true)], args := [d] }
  | _ => none }
def fnAppendFullRow : OpenClaim := { program := "ytdnogbneajloeaa", sum := "48324cc6733d35fe35dbc168a759c0949b665623e19e46afb10fb6b9ecba2bc3", func := "loop.example/mailhost/laws.FnAppendFull", spec := "fnAppendFull", apart := false }
def FnAppendFullSaid : Prop := fnAppendFullRow.holds Try.pinned (OpenSpec.ofChange fnAppendFullSpec)

/-- ITS FALSE NEIGHBOUR: 'it returns false'. Refute it at one input. -/
def fnAppendFullWrong : ChangeSpec := { name := "fnAppendFull", fn := fun _ => fun
  | [d] => { results := [.lit (.bool false)], args := [d] }
  | _ => none }
def FnAppendFullWrongFalsely : Prop := fnAppendFullRow.holds Try.pinned (OpenSpec.ofChange fnAppendFullWrong)

/- THE SECOND FORM. 'bulk': how many values and letters a reading holds, each counted each time it is reached (what is shared counts as often as it is met; a slice's spare places count too). A statement '..UptoSaid' is the law's where the arguments, and the package variables that the reading takes, are together of bulk at most 1048576: NARROWER than '..Said'. Prove '..Said' where nothing that the law and all that it calls make is longer than what came in: it says more and counts as full. Else prove '..UptoSaid'. A law counts once. -/
mutual
def uptoBulk {H : Type} : DataW H → Nat
  | .lit (.string bytes) => bytes.length + 1
  | .lit _ => 1
  | .nil => 1
  | .ptr d => uptoBulk d + 1
  | .slice elems spare => uptoBulkAll elems + uptoBulkAll spare + 1
  | .agg parts => uptoBulkAll parts + 1
  | .iface _ d => uptoBulk d + 1
  | .map entries => uptoBulkEntries entries + 1
  | .held _ => 1
def uptoBulkAll {H : Type} : List (DataW H) → Nat
  | [] => 0
  | d :: r => uptoBulk d + uptoBulkAll r
def uptoBulkEntries {H : Type} : List (Lit × DataW H) → Nat
  | [] => 0
  | x :: r => uptoBulkEntry x + uptoBulkEntries r
def uptoBulkEntry {H : Type} : Lit × DataW H → Nat
  | (.string bytes, d) => bytes.length + uptoBulk d + 1
  | (_, d) => uptoBulk d + 1
 end
def uptoSmall : (H : Type) → List (DataW H) → Bool := fun _ ds => decide (uptoBulkAll ds ≤ 1048576)
def OpenSpec.upto (s : _root_.Go.ChangeSpec) : _root_.Go.OpenSpec := { _root_.Go.OpenSpec.ofChange s with cond := some uptoSmall }

/-- 'laws.FnExactBoxValid', WHERE WHAT IT READS IS OF BULK AT MOST 1048576: true; the input reads as it did. -/
def fnExactBoxValidUptoRow : OpenClaim := { program := "ytdnogbneajloeaa", sum := "48324cc6733d35fe35dbc168a759c0949b665623e19e46afb10fb6b9ecba2bc3", func := "loop.example/mailhost/laws.FnExactBoxValid", spec := "fnExactBoxValid", apart := false, narrowed := true }
def FnExactBoxValidUptoSaid : Prop := fnExactBoxValidUptoRow.holds Try.pinned (OpenSpec.upto fnExactBoxValidSpec)

/-- 'laws.FnExactBoxSize', WHERE WHAT IT READS IS OF BULK AT MOST 1048576: true; the input reads as it did. -/
def fnExactBoxSizeUptoRow : OpenClaim := { program := "ytdnogbneajloeaa", sum := "48324cc6733d35fe35dbc168a759c0949b665623e19e46afb10fb6b9ecba2bc3", func := "loop.example/mailhost/laws.FnExactBoxSize", spec := "fnExactBoxSize", apart := false, narrowed := true }
def FnExactBoxSizeUptoSaid : Prop := fnExactBoxSizeUptoRow.holds Try.pinned (OpenSpec.upto fnExactBoxSizeSpec)

/-- 'laws.FnBoxNext', WHERE WHAT IT READS IS OF BULK AT MOST 1048576: true; the input reads as it did. -/
def fnBoxNextUptoRow : OpenClaim := { program := "ytdnogbneajloeaa", sum := "48324cc6733d35fe35dbc168a759c0949b665623e19e46afb10fb6b9ecba2bc3", func := "loop.example/mailhost/laws.FnBoxNext", spec := "fnBoxNext", apart := false, narrowed := true }
def FnBoxNextUptoSaid : Prop := fnBoxNextUptoRow.holds Try.pinned (OpenSpec.upto fnBoxNextSpec)

/-- 'laws.FnBoxOrder', WHERE WHAT IT READS IS OF BULK AT MOST 1048576: true; the input reads as it did. -/
def fnBoxOrderUptoRow : OpenClaim := { program := "ytdnogbneajloeaa", sum := "48324cc6733d35fe35dbc168a759c0949b665623e19e46afb10fb6b9ecba2bc3", func := "loop.example/mailhost/laws.FnBoxOrder", spec := "fnBoxOrder", apart := false, narrowed := true }
def FnBoxOrderUptoSaid : Prop := fnBoxOrderUptoRow.holds Try.pinned (OpenSpec.upto fnBoxOrderSpec)

/-- 'laws.FnBoxPart', WHERE WHAT IT READS IS OF BULK AT MOST 1048576: true; the input reads as it did. -/
def fnBoxPartUptoRow : OpenClaim := { program := "ytdnogbneajloeaa", sum := "48324cc6733d35fe35dbc168a759c0949b665623e19e46afb10fb6b9ecba2bc3", func := "loop.example/mailhost/laws.FnBoxPart", spec := "fnBoxPart", apart := false, narrowed := true }
def FnBoxPartUptoSaid : Prop := fnBoxPartUptoRow.holds Try.pinned (OpenSpec.upto fnBoxPartSpec)

/-- 'laws.FnSizeParts', WHERE WHAT IT READS IS OF BULK AT MOST 1048576: true; the input reads as it did. -/
def fnSizePartsUptoRow : OpenClaim := { program := "ytdnogbneajloeaa", sum := "48324cc6733d35fe35dbc168a759c0949b665623e19e46afb10fb6b9ecba2bc3", func := "loop.example/mailhost/laws.FnSizeParts", spec := "fnSizeParts", apart := false, narrowed := true }
def FnSizePartsUptoSaid : Prop := fnSizePartsUptoRow.holds Try.pinned (OpenSpec.upto fnSizePartsSpec)

/-- 'laws.FnAppend', WHERE WHAT IT READS IS OF BULK AT MOST 1048576: true; the input reads as it did. -/
def fnAppendUptoRow : OpenClaim := { program := "ytdnogbneajloeaa", sum := "48324cc6733d35fe35dbc168a759c0949b665623e19e46afb10fb6b9ecba2bc3", func := "loop.example/mailhost/laws.FnAppend", spec := "fnAppend", apart := false, narrowed := true }
def FnAppendUptoSaid : Prop := fnAppendUptoRow.holds Try.pinned (OpenSpec.upto fnAppendSpec)

/-- 'laws.FnAppendOld', WHERE WHAT IT READS IS OF BULK AT MOST 1048576: true; the input reads as it did. -/
def fnAppendOldUptoRow : OpenClaim := { program := "ytdnogbneajloeaa", sum := "48324cc6733d35fe35dbc168a759c0949b665623e19e46afb10fb6b9ecba2bc3", func := "loop.example/mailhost/laws.FnAppendOld", spec := "fnAppendOld", apart := false, narrowed := true }
def FnAppendOldUptoSaid : Prop := fnAppendOldUptoRow.holds Try.pinned (OpenSpec.upto fnAppendOldSpec)

/-- 'laws.FnUidsAll', WHERE WHAT IT READS IS OF BULK AT MOST 1048576: true; the input reads as it did. -/
def fnUidsAllUptoRow : OpenClaim := { program := "ytdnogbneajloeaa", sum := "48324cc6733d35fe35dbc168a759c0949b665623e19e46afb10fb6b9ecba2bc3", func := "loop.example/mailhost/laws.FnUidsAll", spec := "fnUidsAll", apart := false, narrowed := true }
def FnUidsAllUptoSaid : Prop := fnUidsAllUptoRow.holds Try.pinned (OpenSpec.upto fnUidsAllSpec)

/-- 'laws.FnUids', WHERE WHAT IT READS IS OF BULK AT MOST 1048576: true; the input reads as it did. -/
def fnUidsUptoRow : OpenClaim := { program := "ytdnogbneajloeaa", sum := "48324cc6733d35fe35dbc168a759c0949b665623e19e46afb10fb6b9ecba2bc3", func := "loop.example/mailhost/laws.FnUids", spec := "fnUids", apart := false, narrowed := true }
def FnUidsUptoSaid : Prop := fnUidsUptoRow.holds Try.pinned (OpenSpec.upto fnUidsSpec)

/-- 'laws.FnSize', WHERE WHAT IT READS IS OF BULK AT MOST 1048576: true; the input reads as it did. -/
def fnSizeUptoRow : OpenClaim := { program := "ytdnogbneajloeaa", sum := "48324cc6733d35fe35dbc168a759c0949b665623e19e46afb10fb6b9ecba2bc3", func := "loop.example/mailhost/laws.FnSize", spec := "fnSize", apart := false, narrowed := true }
def FnSizeUptoSaid : Prop := fnSizeUptoRow.holds Try.pinned (OpenSpec.upto fnSizeSpec)

/-- 'laws.FnAppendFull', WHERE WHAT IT READS IS OF BULK AT MOST 1048576: true; the input reads as it did. -/
def fnAppendFullUptoRow : OpenClaim := { program := "ytdnogbneajloeaa", sum := "48324cc6733d35fe35dbc168a759c0949b665623e19e46afb10fb6b9ecba2bc3", func := "loop.example/mailhost/laws.FnAppendFull", spec := "fnAppendFull", apart := false, narrowed := true }
def FnAppendFullUptoSaid : Prop := fnAppendFullUptoRow.holds Try.pinned (OpenSpec.upto fnAppendFullSpec)

end Rows
end Go.Proofs.Ytdnogbneajloeaa
