/- WALKS of the laws of a search: what is known behind the draw. -/
import Derived.Test.YtlkfaamjbecieaaDoorSDraw
namespace Go.Proofs.YtlkfaamjbecieaaDoor
open Go.RowKit
set_option linter.unusedVariables false

/-- The table of names and the library's number lie where they were laid. -/
def Sees (w : World) : Prop := Names w ∧ MaxInt w
/-- What is known of a drawn mailbox and a key in a law: in their variables, in memory. -/
structure SL (w : World) (S : Nat → Prop) (b : B) (k : K) (bc kc : Array Value) (xb kb : Nat) (v : World) : Prop where
  bat : BoxAt v (.agg bc) b
  kat : KeyAt v S k (.agg kc)
  ins : Ins S v
  box : v.heap[xb]? = some (.cells bc 25 (0, 0))
  key : v.heap[kb]? = some (.cells kc 29 (0, 0))
  nam : Names v
  mi : MaxInt v
  bel : Below w.heap.size w v
  lo : w.heap.size ≤ xb
theorem SL.below {w v v' : World} {S : Nat → Prop} {b : B} {k : K} {bc kc : Array Value} {xb kb : Nat} (h : SL w S b k bc kc xb kb v) (q : Below v.heap.size v v') : SL w S b k bc kc xb kb v' :=
  ⟨h.bat.below q, h.kat.below h.ins q, h.ins.below q, (q.block _ (lt_of_block h.box)).trans h.box, (q.block _ (lt_of_block h.key)).trans h.key, h.nam.below q, h.mi.below q, h.bel.trans (q.mono h.bel.size), h.lo⟩
theorem SL.drewN {w v : World} {S : Nat → Prop} {b : B} {k : K} {bc kc : Array Value} {xb kb : Nat} (h : SL w S b k bc kc xb kb v) (n : Nat) : SL w S b k bc kc xb kb (v.drewN n) := h.below (below_drewN (Below.refl _ _) n)
theorem IntsAt.drewN {w : World} {v : Value} {l : List Int} (h : IntsAt w v l) (n : Nat) : IntsAt (w.drewN n) v l := h.below (below_drewN (Below.refl _ _) n)
end Go.Proofs.YtlkfaamjbecieaaDoor
