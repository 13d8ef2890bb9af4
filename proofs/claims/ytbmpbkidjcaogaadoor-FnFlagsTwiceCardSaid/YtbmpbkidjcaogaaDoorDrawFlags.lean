/- WALKS: how flags, changes and pairs of flags are drawn: whatever the code, numbers come out, and nothing that was there is written. -/
import Derived.Test.YtbmpbkidjcaogaaDoorRead
import Derived.Handy
namespace Go.Proofs.YtbmpbkidjcaogaaDoor
open Go.RowKit

theorem l91Flags_any (r B : Nat) (hB : B + 2 ≤ 1000000) (w : World) (h : Rd w r B) :
    Calls Tryd.prog 24 #[.pointer (some ⟨r, 0, none⟩)] w fun e w' => ∃ m : Int, e = .returned (.int .i64 m) ∧ (-1 ≤ m ∧ m ≤ 32) ∧ Rd w' r (B + 2) ∧ w.grownBy w' (some r) := by
  have hlt := h.lt
  go_enter Tryd.func24, Tryd.ntmps24
  go_wp2_with fail
  refine (pick_any r B _ (by omega) (by omega) (by omega) _ h).mono ?_
  rintro e w1 ⟨m, rfl, hm, h1, g1⟩
  have hlt1 := h1.lt
  by_cases hm0 : m = 0
  · subst hm0
    go_wp2_with fail
    have h1' : Rd (w1.alloc (.cells #[.int .i64 (-1), .int .i64 31, .int .i64 32] 3)) r (B + 1) := h1.below ((Below.refl _ _).alloc (Nat.le_refl _) _)
    refine (pick_any r (B + 1) _ (by omega) (by omega) (by omega) _ h1').mono ?_
    rintro e w2 ⟨m, rfl, hm, h2, g2⟩
    have hb : w2.heap[w1.heap.size]? = some (.cells #[.int .i64 (-1), .int .i64 31, .int .i64 32] 3) :=
      (g2.block _ (by simp) (by simp; omega)).trans (heap_alloc_new w1 _)
    have g : w.grownBy w2 (some r) := grown_trans (grown_trans g1 (World.grownBy_alloc _ _ _)) g2
    have hmm : m = 0 ∨ m = 1 ∨ m = 2 := by omega
    rcases hmm with rfl | rfl | rfl
    · have c0 := cell_of_block (j := 0) hb rfl
      clear hb
      go_wp2_with fail
      go_ret
      exact ⟨-1, rfl, by omega, h2, g⟩
    · have c0 := cell_of_block (j := 1) hb rfl
      clear hb
      go_wp2_with fail
      go_ret
      exact ⟨31, rfl, by omega, h2, g⟩
    · have c0 := cell_of_block (j := 2) hb rfl
      clear hb
      go_wp2_with fail
      go_ret
      exact ⟨32, rfl, by omega, h2, g⟩
  · have hm1 : ((m : Int) == 0) = false := by simp; omega
    go_wp2_with fail
    refine (pick_any r (B + 1) _ (by omega) (by omega) (by omega) _ h1).mono ?_
    rintro e w2 ⟨k, rfl, hk, h2, g2⟩
    go_wp2_with fail
    go_ret
    exact ⟨k, rfl, by omega, h2, grown_trans g1 g2⟩
theorem DrawFlagsText_any (a : Option Addr) (len cap : Nat) (hcap : len ≤ cap) (w : World) (hc : CodeAt w a len) :
    Calls Tryd.prog 11 #[.slice a len cap] w fun e w' => ∃ f : Int, e = .returned (.int .i64 f) ∧ (-1 ≤ f ∧ f ≤ 32) ∧ Below w.heap.size w w' := by
  go_enter Tryd.func11, Tryd.ntmps11
  go_wp2_with fail
  refine (l6Open_any a len cap hcap w hc).mono ?_
  clear hc
  rintro e w1 ⟨r, hr, rfl, h1, b1⟩
  go_wp2_with fail
  refine (l91Flags_any r 0 (by omega) _ h1).mono ?_
  rintro e w2 ⟨f, rfl, hf, h2, g2⟩
  have b2 := b1.grown g2 b1.size (fun k hk => by cases hk; exact hr)
  clear b1 g2 h1 h2
  go_wp2_with fail
  go_ret
  exact ⟨_, rfl, hf, b2⟩
end Go.Proofs.YtbmpbkidjcaogaaDoor
