/- WALKS: the program's text of a key. -/
import Derived.Test.YtgcdopmidmelfaaDoorKWo
namespace Go.Proofs.YtgcdopmidmelfaaDoor
open Go.RowKit
set_option linter.unusedVariables false

/-- The text, or nothing where the key is invalid. -/
def keyT (k : K) : List UInt8 := if keyOk k = true then fmtK k else []
def Texts (w : World) (k : K) (e : Ending) (w' : World) : Prop := ∃ s, e = .returned (.string s) ∧ StrIs s (keyT k) ∧ Below w.heap.size w w'
theorem implKeyFormat_any (k : K) (v : Value) (S : Nat → Prop) (w : World) (h : KeyAt w S k v) (hN : Ins S w) (hF : k.Fit) (hNa : Names w) :
    Calls Tryd.prog 11 #[v] w (Texts w k) := by
  have hkey := h
  obtain ⟨sa, sn, sc, a, L, cap, rfl, _⟩ := h.open
  obtain ⟨w1, hw1⟩ : ∃ w1, w1 = w.alloc (.cells #[.int .i64 k.kind, .int .i64 k.flag, .string k.text, .slice sa sn sc, .slice a L cap] 31) := ⟨_, rfl⟩
  have hbel : Below w.heap.size w w1 := by rw [hw1]; go_grown
  have hb := keyTree_any k _ S w1 (hkey.below hN hbel) (hN.below hbel) hF (hNa.below hbel)
  have HB := Lib.hid hb; have HW := Lib.hid hw1; have HI := Lib.hid hN; have HNA := Lib.hid hNa
  clear hw1 hb hkey h hF hNa hN
  go_enter Tryd.func11, Tryd.ntmps11
  go_wp2_with fail
  rw [← HW.out]
  refine HB.out.mono ?_
  rintro e w2 ⟨nd, rfl, hg, hok⟩
  have bel := hbel.trans (hg.mono hbel.size)
  rcases hko : keyOk k with _ | _
  · have HT := Lib.hid (show keyT k = [] by unfold keyT; rw [hko]; rfl)
    clear hok hg hko
    go_wp2_with fail
    go_ret
    exact ⟨_, rfl, by rw [HT.out]; rfl, bel⟩
  · have hnode := hok hko
    have hko' := hko
    unfold keyOk at hko'
    simp only [Bool.and_eq_true, decide_eq_true_eq] at hko'
    have HT := Lib.hid (show keyT k = fmtK k by unfold keyT; rw [hko]; rfl)
    have hkw := keyWords_any k hko'.1 (by omega) nd S w2 hnode (HI.out.below bel) (HNA.out.below bel)
    have HKW := Lib.hid hkw
    clear hok hg hko hko' hkw hnode
    go_wp2_with fail
    refine HKW.out.mono ?_
    rintro e w3 ⟨s, rfl, hs, q⟩
    have bel2 := bel.trans (q.mono bel.size)
    have HS := Lib.hid hs
    clear hs q
    go_wp2_with fail
    go_ret
    exact ⟨s, rfl, by rw [HT.out]; exact HS.out, bel2⟩
end Go.Proofs.YtgcdopmidmelfaaDoor
