/- WALKS: the program's tree of a key; whether a key is valid. -/
import Derived.Test.YtgcdopmidmelfaaDoorKBuild
namespace Go.Proofs.YtgcdopmidmelfaaDoor
open Go.RowKit
set_option linter.unusedVariables false

set_option maxHeartbeats 400000 in
theorem keyTree_any (k : K) (v : Value) (S : Nat → Prop) (w : World) (h : KeyAt w S k v) (hN : Ins S w) (hF : k.Fit) (hNa : Names w) :
    Calls Tryd.prog 18 #[v] w fun e w' => ∃ nd, e = .returned (.tuple #[nd, .bool (keyOk k)]) ∧ Below w.heap.size w w' ∧ (keyOk k = true → NodeAt w' S k nd) := by
  have hkey := h
  obtain ⟨sa, sn, sc, a, L, cap, rfl, _⟩ := h.open
  obtain ⟨w1, hw1⟩ : ∃ w1, w1 = (w.alloc (.cells #[.int .i64 k.kind, .int .i64 k.flag, .string k.text, .slice sa sn sc, .slice a L cap] 31)).alloc (.cells #[.int .i64 9] 3) := ⟨_, rfl⟩
  have hbel : Below w.heap.size w w1 := by rw [hw1]; go_grown
  have hr : w1.heap[w.heap.size + 1]? = some (.cells #[.int .i64 9] 3 (0, 0)) := by
    have := heap_alloc_new (w.alloc (.cells #[.int .i64 k.kind, .int .i64 k.flag, .string k.text, .slice sa sn sc, .slice a L cap] 31)) (.cells #[.int .i64 9] 3)
    rw [hw1]; simpa using this
  have hrb : ¬ S (w.heap.size + 1) := fun e => by have := hN.lt e; omega
  have hb := keyBuild_any k _ S w1 (w.heap.size + 1) 9 (hkey.below hN hbel) (hN.below hbel) hF (hNa.below hbel) hr hrb (by omega) (by omega)
  have HB := Lib.hid hb; have HW := Lib.hid hw1
  clear hw1 hr hb hkey h hF hNa hrb
  go_enter Tryd.func18, Tryd.ntmps18
  go_wp2_with fail
  rw [← HW.out]
  refine HB.out.mono ?_
  rintro e w2 ⟨nd, rfl, hg, hok⟩
  rw [keyOk_in] at hok ⊢
  have bel : Below w.heap.size w w2 := hbel.grown hg hbel.size (fun k hk => by cases hk; omega)
  have fin : (∃ x, Ending.returned (.tuple #[nd, .bool (keyOk k)]) = .returned (.tuple #[x, .bool (keyOk k)]) ∧ Below w.heap.size w w2 ∧ (keyOk k = true → NodeAt w2 S k x)) := ⟨nd, rfl, bel, fun h => (hok h).1⟩
  have HX := Lib.hid fin
  clear fin hok hg bel
  go_wp2_with fail
  go_ret2
  exact HX.out
theorem implKeyValid_any (k : K) (v : Value) (S : Nat → Prop) (w : World) (h : KeyAt w S k v) (hN : Ins S w) (hF : k.Fit) (hNa : Names w) :
    Calls Tryd.prog 8 #[v] w fun e w' => e = .returned (.bool (keyOk k)) ∧ Below w.heap.size w w' := by
  have hkey := h
  obtain ⟨sa, sn, sc, a, L, cap, rfl, _⟩ := h.open
  obtain ⟨w1, hw1⟩ : ∃ w1, w1 = w.alloc (.cells #[.int .i64 k.kind, .int .i64 k.flag, .string k.text, .slice sa sn sc, .slice a L cap] 31) := ⟨_, rfl⟩
  have hbel : Below w.heap.size w w1 := by rw [hw1]; go_grown
  have hb := keyTree_any k _ S w1 (hkey.below hN hbel) (hN.below hbel) hF (hNa.below hbel)
  have HB := Lib.hid hb; have HW := Lib.hid hw1
  clear hw1 hb hkey h hF hNa
  go_enter Tryd.func8, Tryd.ntmps8
  go_wp2_with fail
  rw [← HW.out]
  refine HB.out.mono ?_
  rintro e w2 ⟨nd, rfl, hg, hok⟩
  have bel := hbel.trans (hg.mono hbel.size)
  clear hok hg
  go_wp2_with fail
  go_ret
  exact ⟨rfl, bel⟩
end Go.Proofs.YtgcdopmidmelfaaDoor
