/- LINKED LISTS of messages in memory: what a list holds, what an added node, a changed flag, a node that is skipped leave. -/
import Derived.Test.YtlkfaamjbecieaaDoorMail
namespace Go.Proofs.YtlkfaamjbecieaaDoor
open Go.RowKit
set_option linter.unusedVariables false

def addr? (k : Option Nat) : Option Addr := k.map fun k => ⟨k, 0, none⟩
theorem addr_none : addr? none = none := rfl
theorem addr_some (k : Nat) : addr? (some k) = some ⟨k, 0, none⟩ := rfl
def nodeCells (m : M) (q : Option Nat) : Array Value := #[.int .i64 m.uid, .int .i64 m.flags, .string m.text, .pointer (addr? q)]
theorem three_cells {w : World} {b : Nat} {x y z : Value} {t : TypeId} (h : w.heap[b]? = some (.cells #[x, y, z] t (0, 0))) :
    w.cell? ⟨b, 0, none⟩ = some x ∧ w.cell? ⟨b, 1, none⟩ = some y ∧ w.cell? ⟨b, 2, none⟩ = some z ∧ w.frozen? ⟨b, 0, none⟩ = false ∧ w.frozen? ⟨b, 1, none⟩ = false ∧ w.frozen? ⟨b, 2, none⟩ = false := by
  simp [World.cell?, World.frozen?, h]
theorem four_cells {w : World} {b : Nat} {x y z u : Value} {t : TypeId} (h : w.heap[b]? = some (.cells #[x, y, z, u] t (0, 0))) :
    w.cell? ⟨b, 0, none⟩ = some x ∧ w.cell? ⟨b, 1, none⟩ = some y ∧ w.cell? ⟨b, 2, none⟩ = some z ∧ w.cell? ⟨b, 3, none⟩ = some u ∧ w.frozen? ⟨b, 1, none⟩ = false ∧ w.frozen? ⟨b, 3, none⟩ = false := by
  simp [World.cell?, World.frozen?, h]
theorem set_at {w : World} {k o : Nat} {u : Value} {cs : Array Value} {t : TypeId} {fz : Nat × Nat} (h : w.heap[k]? = some (.cells cs t fz)) : (w.setCell ⟨k, o, none⟩ u).heap[k]? = some (.cells (cs.setIfInBounds o u) t fz) := by
  have hlt := lt_of_block h
  have h' : w.heap[k] = .cells cs t fz := by simpa [Array.getElem?_eq_getElem hlt] using h
  show (w.heap.modify k _)[k]? = _
  rw [Array.getElem?_eq_getElem (by simpa using hlt), Array.getElem_modify_self, h']
  rfl
theorem ne_two {a b : Nat} (h : a < b) : ¬ (a = b) ∧ ¬ (b = a) := by omega
theorem set_off {w : World} {k j o : Nat} {u : Value} (h : k ≠ j) : (w.setCell ⟨j, o, none⟩ u).heap[k]? = w.heap[k]? := Below.heap_setCell _ _ _ _ h

theorem row_base {w : World} {base e size n m cap g : Nat} {xs : List Value} (h : w.ownsRow base e size (.slice (some ⟨g, 0, none⟩) m cap) n xs) : base ≤ g := by
  rcases h.2 with ⟨h, _⟩ | ⟨g', cap', cur, h, hb, _⟩
  · cases h
  · cases h; exact hb
end Go.Proofs.YtlkfaamjbecieaaDoor
