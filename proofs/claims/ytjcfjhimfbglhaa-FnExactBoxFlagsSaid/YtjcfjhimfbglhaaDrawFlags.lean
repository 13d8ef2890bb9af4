/- WALKS: how flags, changes and pairs of flags are drawn: whatever the code, numbers come out, and nothing that was there is written. -/
import Derived.Test.YtjcfjhimfbglhaaRead
import Derived.Handy
namespace Go.Proofs.Ytjcfjhimfbglhaa
open Go.RowKit

theorem l91Flags_any (r B : Nat) (hB : B + 2 ≤ 1000000) (w : World) (h : Rd w r B) :
    Calls Try.prog 56 #[.pointer (some ⟨r, 0, none⟩)] w fun e w' => ∃ m : Int, e = .returned (.int .i64 m) ∧ (-1 ≤ m ∧ m ≤ 32) ∧ Rd w' r (B + 2) ∧ w.grownBy w' (some r) := by
  have hlt := h.lt
  go_enter Try.func56, Try.ntmps56
  go_wp2_with fail
  refine (pick_any r B _ (by omega) (by omega) (by omega) _ h).mono ?_
  rintro e w1 ⟨m, rfl, hm, h1, g1⟩
  have hlt1 := h1.lt
  by_cases hm0 : m = 0
  · subst hm0
    go_wp2_with fail
    have h1' : Rd (w1.alloc (.cells #[.int .i64 (-1), .int .i64 31, .int .i64 32] 3)) r (B + 1) := h1.below ((Below.refl _ _).alloc (Nat.le_refl _) _)
    refine (pick_any r (B + 1) _ (by omega) (by omega) (by omega) _ h1').mono ?_
    rintro e w2 ⟨m, rfl, hm, h2, g2⟩
    have hb : w2.heap[w1.heap.size]? = some (.cells #[.int .i64 (-1), .int .i64 31, .int .i64 32] 3) :=
      (g2.block _ (by simp) (by simp; omega)).trans (heap_alloc_new w1 _)
    have g : w.grownBy w2 (some r) := grown_trans (grown_trans g1 (World.grownBy_alloc _ _ _)) g2
    have hmm : m = 0 ∨ m = 1 ∨ m = 2 := by omega
    rcases hmm with rfl | rfl | rfl
    · have c0 := cell_of_block (j := 0) hb rfl
      clear hb
      go_wp2_with fail
      go_ret
      exact ⟨-1, rfl, by omega, h2, g⟩
    · have c0 := cell_of_block (j := 1) hb rfl
      clear hb
      go_wp2_with fail
      go_ret
      exact ⟨31, rfl, by omega, h2, g⟩
    · have c0 := cell_of_block (j := 2) hb rfl
      clear hb
      go_wp2_with fail
      go_ret
      exact ⟨32, rfl, by omega, h2, g⟩
  · have hm1 : ((m : Int) == 0) = false := by simp; omega
    go_wp2_with fail
    refine (pick_any r (B + 1) _ (by omega) (by omega) (by omega) _ h1).mono ?_
    rintro e w2 ⟨k, rfl, hk, h2, g2⟩
    go_wp2_with fail
    go_ret
    exact ⟨k, rfl, by omega, h2, grown_trans g1 g2⟩
end Go.Proofs.Ytjcfjhimfbglhaa
