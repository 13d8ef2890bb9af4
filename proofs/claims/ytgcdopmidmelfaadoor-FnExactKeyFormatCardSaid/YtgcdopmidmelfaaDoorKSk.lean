/- WALKS: the reference's text of a key, or nothing. -/
import Derived.Test.YtgcdopmidmelfaaDoorKSf
namespace Go.Proofs.YtgcdopmidmelfaaDoor
open Go.RowKit
set_option linter.unusedVariables false

theorem specKeyFormat_any (k : K) (v : Value) (S : Nat → Prop) (w : World) (h : KeyAt w S k v) (hN : Ins S w) (hF : k.Fit) (hn : k.nodes ≤ 1000000000) :
    Calls Tryd.prog 10 #[v] w (Texts w k) := by
  have hkey := h
  obtain ⟨sa, sn, sc, a, L, cap, rfl, _⟩ := h.open
  obtain ⟨w1, hw1⟩ : ∃ w1, w1 = w.alloc (.cells #[.int .i64 k.kind, .int .i64 k.flag, .string k.text, .slice sa sn sc, .slice a L cap] 31) := ⟨_, rfl⟩
  have hbel : Below w.heap.size w w1 := by rw [hw1]; go_grown
  have r0 : RowAt w1 w.heap.size 31 #[.int .i64 k.kind, .int .i64 k.flag, .string k.text, .slice sa sn sc, .slice a L cap] := by unfold RowAt; rw [hw1]; exact heap_alloc_new w _
  have hb := specKeyValid_any k _ S w1 (hkey.below hN hbel) (hN.below hbel) hF hn
  have HB := Lib.hid hb; have HW := Lib.hid hw1; have HI := Lib.hid hN; have HKY := Lib.hid hkey; have R0 := Lib.hid r0
  clear hw1 hb hkey h hF hN r0
  go_enter Tryd.func10, Tryd.ntmps10
  go_wp2_with fail
  rw [← HW.out]
  refine HB.out.mono ?_
  rintro e w2 ⟨rfl, hg⟩
  have bel := hbel.trans (hg.mono hbel.size)
  obtain ⟨⟨e0, e1, e2, e3, e4⟩, _⟩ := fiveC (R0.out.below hg)
  rcases hko : keyOk k with _ | _
  · have HT := Lib.hid (show keyT k = [] by unfold keyT; rw [hko]; rfl)
    clear hg hko
    go_wp2_with fail
    go_ret
    exact ⟨_, rfl, by rw [HT.out]; rfl, bel⟩
  · have hko' := hko
    unfold keyOk at hko'
    simp only [Bool.and_eq_true, decide_eq_true_eq] at hko'
    have HT := Lib.hid (show keyT k = fmtK k by unfold keyT; rw [hko]; rfl)
    have hkw := l12Format_any k hko'.1 (by omega) _ S w2 (HKY.out.below HI.out bel) (HI.out.below bel)
    have HKW := Lib.hid hkw
    clear hg hko hko' hkw
    go_wp2_with fail
    refine HKW.out.mono ?_
    rintro e w3 ⟨s, rfl, hs, q⟩
    have bel2 := bel.trans (q.mono bel.size)
    have HS := Lib.hid hs
    clear hs q
    go_wp2_with fail
    go_ret
    exact ⟨s, rfl, by rw [HT.out]; exact HS.out, bel2⟩
end Go.Proofs.YtgcdopmidmelfaaDoor
