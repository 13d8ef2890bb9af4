/-
  No cell of these rows narrows 'for every input' (looked for: loops, veiled, ifaces, maps, wideKeys, modest, calm, conditions, laid).
  DERIVED. THE GIVEN ROWS OF THIS SEAT. 5 by the template 'for every input the law returns true; each argument reads behind the call as it read before'; 0 by the template 'total and deterministic' (their statements: YtjgelgjllhjlcaaTotals.lean).
  GIVEN WITH THE SEED: the statements are not yours to turn. If you find one false, say at which input.
  Laid BY PROGRAM, IN A SANDBOX (cutbox-rows.mjs): the forced cells as the released guide's own fill.sh prints them over the translation deb21e8266bf7b2b… (all of the seat's roots in one cut). By AI agents, Wed Nov 11 2026. No macro, syntax, notation, axiom, sorry.
-/
import Derived.Test.YtjgelgjllhjlcaaChecked
import GoSem.Claim
import GoSem.ClaimJoined
import GoSem.ClaimMapViews
import Derived.JoinedTies
import Derived.KernelRfl
namespace Go.Proofs.Ytjgelgjllhjlcaa
/- THE CELL 'sum', in the pinned program and in every row, IS THE sha256 OF THE DUMP (.gsa) THAT YtjgelgjllhjlcaaProg.lean LOADS. Nothing in Lean hashes anything: it is a label: what it is worth is what the hold of that sum in a sandbox is worth. -/
noncomputable def Try.pinned : Pinned := { name := "ytjgelgjllhjlcaa", sum := "deb21e8266bf7b2b36557dae615855c3de107d2b341055bd3be6bbbf32ddde6d", checked := Try.checked }
namespace Rows
def none {H : Type} : Left H := { results := [], args := [] }

/-- 'laws.FnChangePut': WHATEVER THE INPUT: true; the input reads as it did. -/
def fnChangePutSpec : ChangeSpec := { name := "fnChangePut", fn := fun _ => fun
  | [d] => { results := [.lit (.bool true)], args := [d] }
  | _ => none }
def fnChangePutRow : OpenClaim := { program := "ytjgelgjllhjlcaa", sum := "deb21e8266bf7b2b36557dae615855c3de107d2b341055bd3be6bbbf32ddde6d", func := "loop.example/mailhost/laws.FnChangePut", spec := "fnChangePut", unfollowed := true, recurses := true, apart := false }
def FnChangePutSaid : Prop := fnChangePutRow.holds Try.pinned (OpenSpec.ofChange fnChangePutSpec)

/-- ITS FALSE NEIGHBOUR: 'it returns false'. Refute it at one input. -/
def fnChangePutWrong : ChangeSpec := { name := "fnChangePut", fn := fun _ => fun
  | [d] => { results := [.lit (.bool false)], args := [d] }
  | _ => none }
def FnChangePutWrongFalsely : Prop := fnChangePutRow.holds Try.pinned (OpenSpec.ofChange fnChangePutWrong)

/-- 'laws.FnChangeTwice': WHATEVER THE INPUT: true; the input reads as it did. -/
def fnChangeTwiceSpec : ChangeSpec := { name := "fnChangeTwice", fn := fun _ => fun
  | [d] => { results := [.lit (.bool true)], args := [d] }
  | _ => none }
def fnChangeTwiceRow : OpenClaim := { program := "ytjgelgjllhjlcaa", sum := "deb21e8266bf7b2b36557dae615855c3de107d2b341055bd3be6bbbf32ddde6d", func := "loop.example/mailhost/laws.FnChangeTwice", spec := "fnChangeTwice", unfollowed := true, recurses := true, apart := false }
def FnChangeTwiceSaid : Prop := fnChangeTwiceRow.holds Try.pinned (OpenSpec.ofChange fnChangeTwiceSpec)

/-- ITS FALSE NEIGHBOUR: 'it returns false'. Refute it at one input. -/
def fnChangeTwiceWrong : ChangeSpec := { name := "fnChangeTwice", fn := fun _ => fun
  | [d] => { results := [.lit (.bool false)], args := [d] }
  | _ => none }
def FnChangeTwiceWrongFalsely : Prop := fnChangeTwiceRow.holds Try.pinned (OpenSpec.ofChange fnChangeTwiceWrong)

/-- 'laws.FnChangeRemove': WHATEVER THE INPUT: true; the input reads as it did. -/
def fnChangeRemoveSpec : ChangeSpec := { name := "fnChangeRemove", fn := fun _ => fun
  | [d] => { results := [.lit (.bool true)], args := [d] }
  | _ => none }
def fnChangeRemoveRow : OpenClaim := { program := "ytjgelgjllhjlcaa", sum := "deb21e8266bf7b2b36557dae615855c3de107d2b341055bd3be6bbbf32ddde6d", func := "loop.example/mailhost/laws.FnChangeRemove", spec := "fnChangeRemove", unfollowed := true, recurses := true, apart := false }
def FnChangeRemoveSaid : Prop := fnChangeRemoveRow.holds Try.pinned (OpenSpec.ofChange fnChangeRemoveSpec)

/-- ITS FALSE NEIGHBOUR: 'it returns false'. Refute it at one input. -/
def fnChangeRemoveWrong : ChangeSpec := { name := "fnChangeRemove", fn := fun _ => fun
  | [d] => { results := [.lit (.bool false)], args := [d] }
  | _ => none }
def FnChangeRemoveWrongFalsely : Prop := fnChangeRemoveRow.holds Try.pinned (OpenSpec.ofChange fnChangeRemoveWrong)

/-- 'laws.FnChangeSet': WHATEVER THE INPUT: true; the input reads as it did. -/
def fnChangeSetSpec : ChangeSpec := { name := "fnChangeSet", fn := fun _ => fun
  | [d] => { results := [.lit (.bool true)], args := [d] }
  | _ => none }
def fnChangeSetRow : OpenClaim := { program := "ytjgelgjllhjlcaa", sum := "deb21e8266bf7b2b36557dae615855c3de107d2b341055bd3be6bbbf32ddde6d", func := "loop.example/mailhost/laws.FnChangeSet", spec := "fnChangeSet", unfollowed := true, recurses := true, apart := false }
def FnChangeSetSaid : Prop := fnChangeSetRow.holds Try.pinned (OpenSpec.ofChange fnChangeSetSpec)

/-- ITS FALSE NEIGHBOUR: 'it returns false'. Refute it at one input. -/
def fnChangeSetWrong : ChangeSpec := { name := "fnChangeSet", fn := fun _ => fun
  | [d] => { results := [.lit (.bool false)], args := [d] }
  | _ => none }
def FnChangeSetWrongFalsely : Prop := fnChangeSetRow.holds Try.pinned (OpenSpec.ofChange fnChangeSetWrong)

/-- 'laws.FnHave': WHATEVER THE INPUT: true; the input reads as it did. -/
def fnHaveSpec : ChangeSpec := { name := "fnHave", fn := fun _ => fun
  | [d] => { results := [.lit (.bool true)], args := [d] }
  | _ => none }
def fnHaveRow : OpenClaim := { program := "ytjgelgjllhjlcaa", sum := "deb21e8266bf7b2b36557dae615855c3de107d2b341055bd3be6bbbf32ddde6d", func := "loop.example/mailhost/laws.FnHave", spec := "fnHave", unfollowed := true, recurses := true, apart := false }
def FnHaveSaid : Prop := fnHaveRow.holds Try.pinned (OpenSpec.ofChange fnHaveSpec)

/-- ITS FALSE NEIGHBOUR: 'it returns false'. Refute it at one input. -/
def fnHaveWrong : ChangeSpec := { name := "fnHave", fn := fun _ => fun
  | [d] => { results := [.lit (.bool false)], args := [d] }
  | _ => none }
def FnHaveWrongFalsely : Prop := fnHaveRow.holds Try.pinned (OpenSpec.ofChange fnHaveWrong)

/- THE SECOND FORM. 'bulk': how many values and letters a reading holds, each counted each time it is reached (what is shared counts as often as it is met; a slice's spare places count too). A statement '..UptoSaid' is the law's where the arguments, and the package variables that the reading takes, are together of bulk at most 1048576: NARROWER than '..Said'. Prove '..Said' where nothing that the law and all that it calls make is longer than what came in: it says more and counts as full. Else prove '..UptoSaid'. A law counts once. -/
mutual
def uptoBulk {H : Type} : DataW H → Nat
  | .lit (.string bytes) => bytes.length + 1
  | .lit _ => 1
  | .nil => 1
  | .ptr d => uptoBulk d + 1
  | .slice elems spare => uptoBulkAll elems + uptoBulkAll spare + 1
  | .agg parts => uptoBulkAll parts + 1
  | .iface _ d => uptoBulk d + 1
  | .map entries => uptoBulkEntries entries + 1
  | .held _ => 1
def uptoBulkAll {H : Type} : List (DataW H) → Nat
  | [] => 0
  | d :: r => uptoBulk d + uptoBulkAll r
def uptoBulkEntries {H : Type} : List (Lit × DataW H) → Nat
  | [] => 0
  | x :: r => uptoBulkEntry x + uptoBulkEntries r
def uptoBulkEntry {H : Type} : Lit × DataW H → Nat
  | (.string bytes, d) => bytes.length + uptoBulk d + 1
  | (_, d) => uptoBulk d + 1
 end
def uptoSmall : (H : Type) → List (DataW H) → Bool := fun _ ds => decide (uptoBulkAll ds ≤ 1048576)
def OpenSpec.upto (s : _root_.Go.ChangeSpec) : _root_.Go.OpenSpec := { _root_.Go.OpenSpec.ofChange s with cond := some uptoSmall }

/-- 'laws.FnChangePut', WHERE WHAT IT READS IS OF BULK AT MOST 1048576: true; the input reads as it did. -/
def fnChangePutUptoRow : OpenClaim := { program := "ytjgelgjllhjlcaa", sum := "deb21e8266bf7b2b36557dae615855c3de107d2b341055bd3be6bbbf32ddde6d", func := "loop.example/mailhost/laws.FnChangePut", spec := "fnChangePut", unfollowed := true, recurses := true, apart := false, narrowed := true }
def FnChangePutUptoSaid : Prop := fnChangePutUptoRow.holds Try.pinned (OpenSpec.upto fnChangePutSpec)

/-- 'laws.FnChangeTwice', WHERE WHAT IT READS IS OF BULK AT MOST 1048576: true; the input reads as it did. -/
def fnChangeTwiceUptoRow : OpenClaim := { program := "ytjgelgjllhjlcaa", sum := "deb21e8266bf7b2b36557dae615855c3de107d2b341055bd3be6bbbf32ddde6d", func := "loop.example/mailhost/laws.FnChangeTwice", spec := "fnChangeTwice", unfollowed := true, recurses := true, apart := false, narrowed := true }
def FnChangeTwiceUptoSaid : Prop := fnChangeTwiceUptoRow.holds Try.pinned (OpenSpec.upto fnChangeTwiceSpec)

/-- 'laws.FnChangeRemove', WHERE WHAT IT READS IS OF BULK AT MOST 1048576: true; the input reads as it did. -/
def fnChangeRemoveUptoRow : OpenClaim := { program := "ytjgelgjllhjlcaa", sum := "deb21e8266bf7b2b36557dae615855c3de107d2b341055bd3be6bbbf32ddde6d", func := "loop.example/mailhost/laws.FnChangeRemove", spec := "fnChangeRemove", unfollowed := true, recurses := true, apart := false, narrowed := true }
def FnChangeRemoveUptoSaid : Prop := fnChangeRemoveUptoRow.holds Try.pinned (OpenSpec.upto fnChangeRemoveSpec)

/-- 'laws.FnChangeSet', WHERE WHAT IT READS IS OF BULK AT MOST 1048576: true; the input reads as it did. -/
def fnChangeSetUptoRow : OpenClaim := { program := "ytjgelgjllhjlcaa", sum := "deb21e8266bf7b2b36557dae615855c3de107d2b341055bd3be6bbbf32ddde6d", func := "loop.example/mailhost/laws.FnChangeSet", spec := "fnChangeSet", unfollowed := true, recurses := true, apart := false, narrowed := true }
def FnChangeSetUptoSaid : Prop := fnChangeSetUptoRow.holds Try.pinned (OpenSpec.upto fnChangeSetSpec)

/-- 'laws.FnHave', WHERE WHAT IT READS IS OF BULK AT MOST 1048576: true; the input reads as it did. -/
def fnHaveUptoRow : OpenClaim := { program := "ytjgelgjllhjlcaa", sum := "deb21e8266bf7b2b36557dae615855c3de107d2b341055bd3be6bbbf32ddde6d", func := "loop.example/mailhost/laws.FnHave", spec := "fnHave", unfollowed := true, recurses := true, apart := false, narrowed := true }
def FnHaveUptoSaid : Prop := fnHaveUptoRow.holds Try.pinned (OpenSpec.upto fnHaveSpec)

end Rows
end Go.Proofs.Ytjgelgjllhjlcaa
