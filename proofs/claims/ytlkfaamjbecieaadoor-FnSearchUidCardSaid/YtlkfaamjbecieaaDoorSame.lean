/- WALKS: equal lists are found equal; whether a list has a number; the numbers up to one. -/
import Derived.Test.YtlkfaamjbecieaaDoorMail
import Derived.Test.YtlkfaamjbecieaaDoorExpunge
import Derived.Deep.QuietTactic
import Derived.BigQuiet
namespace Go.Proofs.YtlkfaamjbecieaaDoor
open Go.RowKit
set_option linter.unusedVariables false

theorem below_drewN {B : Nat} {w w' : World} (h : Below B w w') (n : Nat) : Below B w (w'.drewN n) := ⟨h.os, h.tape, h.output, h.size, h.block⟩
/-- A slice of numbers that can be read. -/
def IntsAt (w : World) (v : Value) (l : List Int) : Prop :=
  ∃ a n cap, v = .slice a n cap ∧ l.length = n ∧ n ≤ cap ∧ (n ≤ 4398046511104 ∧ (a = none → cap = 0)) ∧ (n = 0 ∨ ∃ b off, a = some ⟨b, off, none⟩ ∧ b < w.heap.size ∧
    ∀ i x, l[i]? = some x → w.cell? ⟨b, off + i, none⟩ = some (.int .i64 x))
theorem IntsAt.below {w w' : World} {v : Value} {l : List Int} (h : IntsAt w v l) (hb : Below w.heap.size w w') : IntsAt w' v l := by
  obtain ⟨a, n, cap, rfl, hn, hc, hm, h⟩ := h
  refine ⟨a, n, cap, rfl, hn, hc, hm, ?_⟩
  rcases h with h | ⟨b, off, ha, hlt, h⟩
  · exact .inl h
  · exact .inr ⟨b, off, ha, by have := hb.size; omega, fun i x hi => (hb.cell (p := ⟨b, _, none⟩) hlt).trans (h i x hi)⟩
theorem OwnInts.at {w : World} {base : Nat} {v : Value} {l : List Int} (h : OwnInts w base v l) (hl : l.length ≤ 4398046511104) : IntsAt w v l := by
  have hc := fun g (hg : v.ownBlock = some g) => World.ownsRow.cells h hg
  rcases h.2 with ⟨rfl, h0⟩ | ⟨g, cap, cur, rfl, hb, hh, hn, hm, hs, ht⟩
  · exact ⟨none, l.length, 0, by rw [h0], rfl, by omega, ⟨hl, fun _ => rfl⟩, .inl h0⟩
  · refine ⟨some ⟨g, 0, none⟩, l.length, cap, rfl, rfl, hn, ⟨hl, fun e => by cases e⟩, .inr ⟨g, 0, rfl, lt_of_block hh, fun i m hi => ?_⟩⟩
    have k0 := hc g rfl i (.int .i64 m) (by simp [hi])
    rw [add_at] at k0
    exact k0
set_option maxHeartbeats 400000 in
theorem sameInts_any (l : List Int) (v1 v2 : Value) (w : World) (h1 : IntsAt w v1 l) (h2 : IntsAt w v2 l) :
    Calls Tryd.prog 16 #[v1, v2] w fun e w' => e = .returned (.bool true) ∧ Below w.heap.size w w' := by
  obtain ⟨a1, L, cap1, rfl, hL, hc1, ⟨hm1, _⟩, hmail1⟩ := h1
  obtain ⟨a2, L2, cap2, rfl, hL2, hc2, ⟨hm2, _⟩, hmail2⟩ := h2
  obtain rfl : L2 = L := by omega
  have HL := Lib.hid hL
  clear hL hL2
  go_enter Tryd.func16, Tryd.ntmps16
  go_wp2_with fail
  go_loopw [5] (fun i wr => ∃ (n : Nat), n ≤ L2 ∧ i = .int .i64 n ∧ Below w.heap.size w wr) (fun i _ => L2 - (intOf i).toNat)
  case atStart => exact ⟨0, by omega, rfl, Below.refl _ _⟩
  case round =>
    obtain ⟨n, hnL, rfl, hq⟩ := hrel
    by_cases hlt : n < L2
    · rcases hmail1 with h0 | ⟨g1, off1, rfl, hg1, hcells1⟩
      · omega
      rcases hmail2 with h0 | ⟨g2, off2, rfl, hg2, hcells2⟩
      · omega
      have hlt' : n < l.length := by rw [HL.out]; exact hlt
      have hm := List.getElem?_eq_getElem hlt'
      generalize l[n] = m at hm
      have c0 := (hq.cell (p := ⟨g1, _, none⟩) hg1).trans (hcells1 n _ hm)
      have d0 := (hq.cell (p := ⟨g2, _, none⟩) hg2).trans (hcells2 n _ hm)
      have hnI : (n : Int) < (L2 : Int) := by omega
      clear hcells1 hcells2 hm
      go_wp2_with fail
      go_quiet (fail)
      go_wp2_with fail
      go_roundw
      case rel => exact ⟨n + 1, by omega, by go_num, below_drewN hq _⟩
      case measure => simp [intOf]; omega
    · have : n = L2 := by omega
      subst this
      clear hmail1 hmail2
      go_wp2_with fail
      go_ret
      exact ⟨rfl, hq⟩
end Go.Proofs.YtlkfaamjbecieaaDoor
