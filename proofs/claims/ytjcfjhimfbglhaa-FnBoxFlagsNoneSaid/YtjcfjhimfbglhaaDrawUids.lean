/- WALKS: a mailbox and numbers are drawn. -/
import Derived.Test.YtjcfjhimfbglhaaDraws
import Derived.Test.YtjcfjhimfbglhaaUids
import Derived.Test.YtjcfjhimfbglhaaApp
import Derived.Deep.RegionHeld3
import Derived.Deep.LoopGhost
namespace Go.Proofs.Ytjcfjhimfbglhaa
open Go.RowKit
set_option linter.unusedVariables false

/-- What is known while numbers are drawn: the reader, the mailbox in its variable, its row, the numbers so far, the result's place. -/
structure DU (w : World) (r base yb K : Nat) (b : B) (a : Option Addr) (cap g k cp : Nat) (us : List Int) (v : World) : Prop where
  rd : Rd v r K
  box : v.heap[yb]? = some (.cells #[.int .i64 b.next, .slice a b.mail.length cap] 29 (0, 0))
  own : Own v base (.slice a b.mail.length cap) b.mail
  ints : v.ownsRow base 3 1 (.slice (some ⟨g, 0, none⟩) k cp) k (us.map (Value.int .i64))
  zero : v.heap[w.heap.size]? = some (.cells #[.int .i64 0, .slice none 0 0] 29 (0, 0))
  bel : Below w.heap.size w v
  h1 : w.heap.size < r
  h2 : r < base
  h3 : base ≤ yb
theorem ints_grown {w w' : World} {base r : Nat} {v : Value} {n : Nat} {xs : List Value} (h : w.ownsRow base 3 1 v n xs) (g : w.grownBy w' (some r)) (hr : r < base) : w'.ownsRow base 3 1 v n xs := by
  refine World.ownsRow.kept h g ?_
  rcases h.2 with ⟨rfl, _⟩ | ⟨g, cap, cur, rfl, hb, _⟩
  · exact .inl rfl
  · right; intro e; simp [Value.ownBlock] at e; omega
theorem DU.call {w v v' : World} {r base yb K K' : Nat} {b : B} {a : Option Addr} {cap g k cp : Nat} {us : List Int} (h : DU w r base yb K b a cap g k cp us v) (hr : Rd v' r K') (hg : v.grownBy v' (some r)) : DU w r base yb K' b a cap g k cp us v' :=
  have := h.h1; have := h.h2; have := h.h3
  ⟨hr, (hg.block _ (lt_of_block h.box) (by simp; omega)).trans h.box, h.own.grown hg h.h2, ints_grown h.ints hg h.h2, (hg.block _ (lt_of_block h.zero) (by simp; omega)).trans h.zero,
    h.bel.grown hg h.bel.size (fun k hk => by cases hk; omega), h.h1, h.h2, h.h3⟩
theorem DU.below {w v v' : World} {r base yb K : Nat} {b : B} {a : Option Addr} {cap g k cp : Nat} {us : List Int} (h : DU w r base yb K b a cap g k cp us v) (hb : Below v.heap.size v v') : DU w r base yb K b a cap g k cp us v' :=
  h.call (h.rd.below hb) (grown_of_below hb)
theorem DU.more {w v : World} {r base yb K K' : Nat} {b : B} {a : Option Addr} {cap g k cp : Nat} {us : List Int} (h : DU w r base yb K b a cap g k cp us v) (hK : K ≤ K') : DU w r base yb K' b a cap g k cp us v :=
  ⟨h.rd.more hK, h.box, h.own, h.ints, h.zero, h.bel, h.h1, h.h2, h.h3⟩
/-- One number more. -/
theorem DU.push {w v v' : World} {r base yb K : Nat} {b : B} {a : Option Addr} {cap g k cp g' k' cp' : Nat} {us us' : List Int} (h : DU w r base yb K b a cap g k cp us v) (hg : v.grownBy v' (some g)) (hi : v'.ownsRow base 3 1 (.slice (some ⟨g', 0, none⟩) k' cp') k' (us'.map (Value.int .i64))) : DU w r base yb K b a cap g' k' cp' us' v' := by
  have e1 := h.h1; have e2 := h.h2; have e3 := h.h3
  have hb := row_base h.ints
  have hg2 : v.grownBy v' (Value.slice (some ⟨g, 0, none⟩) k cp).ownBlock := hg
  refine ⟨h.rd.keep fun j hj => hg.block j (by have := h.rd.lt; omega) (by simp; omega), block_kept h.box (by decide) h.ints hg2, row_kept h.own h.ints (by decide) hg2, hi, (hg.block _ (lt_of_block h.zero) (by simp; omega)).trans h.zero,
    h.bel.grown hg h.bel.size (fun k hk => by cases hk; omega), e1, e2, e3⟩
theorem DU.lt {w v : World} {r base yb K : Nat} {b : B} {a : Option Addr} {cap g k cp : Nat} {us : List Int} (h : DU w r base yb K b a cap g k cp us v) : yb < v.heap.size ∧ w.heap.size < v.heap.size ∧ base ≤ v.heap.size := by
  have e1 := h.h1; have e2 := h.h2; have e3 := h.h3
  have := lt_of_block h.box
  omega
def uidAt (b : B) (i : Nat) : Int := match b.mail[i]? with | some m => m.uid | none => 0
theorem uids_at {w : World} {base g cap : Nat} {b : B} (h : Own w base (.slice (some ⟨g, 0, none⟩) b.mail.length cap) b.mail) : ∀ i, i < b.mail.length → w.cell? ⟨g, i * 3, none⟩ = some (.int .i64 (uidAt b i)) := by
  intro i hi
  obtain ⟨m, hm, c0, _⟩ := h.at hi
  rw [c0]; unfold uidAt; rw [hm]
end Go.Proofs.Ytjcfjhimfbglhaa
