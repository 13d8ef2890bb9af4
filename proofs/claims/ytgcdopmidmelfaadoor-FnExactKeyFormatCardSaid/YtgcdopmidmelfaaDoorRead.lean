/- WALKS: the reader that draws inputs out of a code (l6Open, pick): it writes its own counter alone, and each number that it gives lies below the bound. -/
import Derived.Test.YtgcdopmidmelfaaDoorFlags
import Derived.BigQuiet
namespace Go.Proofs.YtgcdopmidmelfaaDoor
open Go.RowKit

theorem grown_of_below {w w' : World} {row : Option Nat} (h : Below w.heap.size w w') : w.grownBy w' row := ⟨h.os, h.tape, h.output, h.size, fun k hk _ => h.block k hk⟩
theorem grown_trans {a b c : World} {row : Option Nat} (h : a.grownBy b row) (k : b.grownBy c row) : a.grownBy c row :=
  ⟨k.os.trans h.os, k.tape.trans h.tape, k.output.trans h.output, Nat.le_trans h.size k.size, fun i hi hr => (k.block i (Nat.lt_of_lt_of_le hi h.size) hr).trans (h.block i hi hr)⟩
theorem grown_refl (a : World) (row : Option Nat) : a.grownBy a row := ⟨rfl, rfl, rfl, Nat.le_refl _, fun _ _ _ => rfl⟩

/-- A code: bytes that can be read. -/
def CodeAt (w : World) (a : Option Addr) (len : Nat) : Prop :=
  len = 0 ∨ ∃ b off, a = some ⟨b, off, none⟩ ∧ b < w.heap.size ∧ ∀ i, i < len → ∃ n : Nat, n < 256 ∧ w.cell? ⟨b, off + i, none⟩ = some (.int .u8 (n : Int))
end Go.Proofs.YtgcdopmidmelfaaDoor
