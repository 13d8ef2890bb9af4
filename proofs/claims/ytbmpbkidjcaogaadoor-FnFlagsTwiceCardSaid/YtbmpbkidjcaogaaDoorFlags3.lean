/- WALKS: the program's change of flags (a closure chosen by a number, then called), and whether flags contain others, in the program and in the reference. -/
import Derived.Test.YtbmpbkidjcaogaaDoorFlags2
namespace Go.Proofs.YtbmpbkidjcaogaaDoor
open Go.RowKit

theorem i64_or : ∀ f : Nat, f < 32 → ∀ o : Nat, o < 32 → bits .or .i64 (f : Int) (o : Int) = ((f ||| o : Nat) : Int) := by decide +kernel
theorem i64_and : ∀ f : Nat, f < 32 → ∀ o : Nat, o < 32 → bits .and .i64 (f : Int) (o : Int) = ((f &&& o : Nat) : Int) := by decide +kernel
theorem i64_andNot : ∀ f : Nat, f < 32 → ∀ o : Nat, o < 32 → bits .andNot .i64 (f : Int) (o : Int) = ((f &&& (31 ^^^ o) : Nat) : Int) := by decide +kernel
theorem or_same : ∀ f : Nat, f < 32 → ∀ o : Nat, o < 32 → (((f ||| o) == f) = ((f &&& o) == o)) := by decide +kernel

end Go.Proofs.YtbmpbkidjcaogaaDoor
