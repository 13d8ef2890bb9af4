/- WALKS: equal lists are found equal; whether a list has a number; the numbers up to one. -/
import Derived.Test.YtpahgjideppmoaaMail
import Derived.Test.YtpahgjideppmoaaExpunge
import Derived.Deep.QuietTactic
import Derived.BigQuiet
namespace Go.Proofs.Ytpahgjideppmoaa
open Go.RowKit
set_option linter.unusedVariables false

theorem below_drewN {B : Nat} {w w' : World} (h : Below B w w') (n : Nat) : Below B w (w'.drewN n) := ⟨h.os, h.tape, h.output, h.size, h.block⟩
/-- A slice of numbers that can be read. -/
def IntsAt (w : World) (v : Value) (l : List Int) : Prop :=
  ∃ a n cap, v = .slice a n cap ∧ l.length = n ∧ n ≤ cap ∧ (n ≤ 4398046511104 ∧ (a = none → cap = 0)) ∧ (n = 0 ∨ ∃ b off, a = some ⟨b, off, none⟩ ∧ b < w.heap.size ∧
    ∀ i x, l[i]? = some x → w.cell? ⟨b, off + i, none⟩ = some (.int .i64 x))
theorem IntsAt.below {w w' : World} {v : Value} {l : List Int} (h : IntsAt w v l) (hb : Below w.heap.size w w') : IntsAt w' v l := by
  obtain ⟨a, n, cap, rfl, hn, hc, hm, h⟩ := h
  refine ⟨a, n, cap, rfl, hn, hc, hm, ?_⟩
  rcases h with h | ⟨b, off, ha, hlt, h⟩
  · exact .inl h
  · exact .inr ⟨b, off, ha, by have := hb.size; omega, fun i x hi => (hb.cell (p := ⟨b, _, none⟩) hlt).trans (h i x hi)⟩
theorem OwnInts.at {w : World} {base : Nat} {v : Value} {l : List Int} (h : OwnInts w base v l) (hl : l.length ≤ 4398046511104) : IntsAt w v l := by
  have hc := fun g (hg : v.ownBlock = some g) => World.ownsRow.cells h hg
  rcases h.2 with ⟨rfl, h0⟩ | ⟨g, cap, cur, rfl, hb, hh, hn, hm, hs, ht⟩
  · exact ⟨none, l.length, 0, by rw [h0], rfl, by omega, ⟨hl, fun _ => rfl⟩, .inl h0⟩
  · refine ⟨some ⟨g, 0, none⟩, l.length, cap, rfl, rfl, hn, ⟨hl, fun e => by cases e⟩, .inr ⟨g, 0, rfl, lt_of_block hh, fun i m hi => ?_⟩⟩
    have k0 := hc g rfl i (.int .i64 m) (by simp [hi])
    rw [add_at] at k0
    exact k0
end Go.Proofs.Ytpahgjideppmoaa
