/- WALKS: how flags, changes and pairs of flags are drawn: whatever the code, numbers come out, and nothing that was there is written. -/
import Derived.Test.YtjgelgjllhjlcaaDoorRead
import Derived.Handy
namespace Go.Proofs.YtjgelgjllhjlcaaDoor
open Go.RowKit

theorem l91Flags_any (r B : Nat) (hB : B + 2 ≤ 1000000) (w : World) (h : Rd w r B) :
    Calls Tryd.prog 21 #[.pointer (some ⟨r, 0, none⟩)] w fun e w' => ∃ m : Int, e = .returned (.int .i64 m) ∧ (-1 ≤ m ∧ m ≤ 32) ∧ Rd w' r (B + 2) ∧ w.grownBy w' (some r) := by
  have hlt := h.lt
  go_enter Tryd.func21, Tryd.ntmps21
  go_wp2_with fail
  refine (pick_any r B _ (by omega) (by omega) (by omega) _ h).mono ?_
  rintro e w1 ⟨m, rfl, hm, h1, g1⟩
  have hlt1 := h1.lt
  by_cases hm0 : m = 0
  · subst hm0
    go_wp2_with fail
    have h1' : Rd (w1.alloc (.cells #[.int .i64 (-1), .int .i64 31, .int .i64 32] 3)) r (B + 1) := h1.below ((Below.refl _ _).alloc (Nat.le_refl _) _)
    refine (pick_any r (B + 1) _ (by omega) (by omega) (by omega) _ h1').mono ?_
    rintro e w2 ⟨m, rfl, hm, h2, g2⟩
    have hb : w2.heap[w1.heap.size]? = some (.cells #[.int .i64 (-1), .int .i64 31, .int .i64 32] 3) :=
      (g2.block _ (by simp) (by simp; omega)).trans (heap_alloc_new w1 _)
    have g : w.grownBy w2 (some r) := grown_trans (grown_trans g1 (World.grownBy_alloc _ _ _)) g2
    have hmm : m = 0 ∨ m = 1 ∨ m = 2 := by omega
    rcases hmm with rfl | rfl | rfl
    · have c0 := cell_of_block (j := 0) hb rfl
      clear hb
      go_wp2_with fail
      go_ret
      exact ⟨-1, rfl, by omega, h2, g⟩
    · have c0 := cell_of_block (j := 1) hb rfl
      clear hb
      go_wp2_with fail
      go_ret
      exact ⟨31, rfl, by omega, h2, g⟩
    · have c0 := cell_of_block (j := 2) hb rfl
      clear hb
      go_wp2_with fail
      go_ret
      exact ⟨32, rfl, by omega, h2, g⟩
  · have hm1 : ((m : Int) == 0) = false := by simp; omega
    go_wp2_with fail
    refine (pick_any r (B + 1) _ (by omega) (by omega) (by omega) _ h1).mono ?_
    rintro e w2 ⟨k, rfl, hk, h2, g2⟩
    go_wp2_with fail
    go_ret
    exact ⟨k, rfl, by omega, h2, grown_trans g1 g2⟩
theorem DrawFlagsChange_any (a : Option Addr) (len cap : Nat) (hcap : len ≤ cap) (w : World) (hc : CodeAt w a len) :
    Calls Tryd.prog 13 #[.slice a len cap] w fun e w' => ∃ f h o : Int, e = .returned (.tuple #[.int .i64 f, .int .i64 h, .int .i64 o]) ∧ (-1 ≤ f ∧ f ≤ 32 ∧ -1 ≤ h ∧ h ≤ 3 ∧ -1 ≤ o ∧ o ≤ 32) ∧ Below w.heap.size w w' := by
  go_enter Tryd.func13, Tryd.ntmps13
  go_wp2_with fail
  refine (l6Open_any a len cap hcap w hc).mono ?_
  clear hc
  rintro e w1 ⟨r, hr, rfl, h1, b1⟩
  go_wp2_with fail
  refine (l91Flags_any r 0 (by omega) _ h1).mono ?_
  rintro e w2 ⟨f, rfl, hf, h2, g2⟩
  have b2 := b1.grown g2 b1.size (fun k hk => by cases hk; exact hr)
  go_wp2_with fail
  refine (pick_any r 2 _ (by omega) (by omega) (by omega) _ h2).mono ?_
  rintro e w3 ⟨x, rfl, hx, h3, g3⟩
  have b3 := b2.grown g3 b2.size (fun k hk => by cases hk; exact hr)
  go_wp2_with fail
  refine (pick_any r 3 _ (by omega) (by omega) (by omega) _ h3).mono ?_
  rintro e w4 ⟨y, rfl, hy, h4, g4⟩
  have b4 := b3.grown g4 b3.size (fun k hk => by cases hk; exact hr)
  go_wp2_with fail
  refine (l91Flags_any r 4 (by omega) _ h4).mono ?_
  rintro e w5 ⟨o, rfl, ho, h5, g5⟩
  have b5 := b4.grown g5 b4.size (fun k hk => by cases hk; exact hr)
  clear b1 b2 b3 b4 g2 g3 g4 g5 h1 h2 h3 h4 h5
  go_wp2_with fail
  go_ret3
  exact ⟨_, _, _, rfl, by omega, b5⟩
theorem DrawFlagsHave_any (a : Option Addr) (len cap : Nat) (hcap : len ≤ cap) (w : World) (hc : CodeAt w a len) :
    Calls Tryd.prog 10 #[.slice a len cap] w fun e w' => ∃ f o : Int, e = .returned (.tuple #[.int .i64 f, .int .i64 o]) ∧ (-1 ≤ f ∧ f ≤ 32 ∧ -1 ≤ o ∧ o ≤ 32) ∧ Below w.heap.size w w' := by
  go_enter Tryd.func10, Tryd.ntmps10
  go_wp2_with fail
  refine (l6Open_any a len cap hcap w hc).mono ?_
  clear hc
  rintro e w1 ⟨r, hr, rfl, h1, b1⟩
  go_wp2_with fail
  refine (l91Flags_any r 0 (by omega) _ h1).mono ?_
  rintro e w2 ⟨f, rfl, hf, h2, g2⟩
  have b2 := b1.grown g2 b1.size (fun k hk => by cases hk; exact hr)
  go_wp2_with fail
  refine (pick_any r 2 _ (by omega) (by omega) (by omega) _ h2).mono ?_
  rintro e w3 ⟨x, rfl, hx, h3, g3⟩
  have b3 := b2.grown g3 b2.size (fun k hk => by cases hk; exact hr)
  by_cases hx0 : x = 0
  · subst hx0
    go_wp2_with fail
    refine (pick_any r 3 _ (by omega) (by omega) (by omega) _ h3).mono ?_
    rintro e w4 ⟨y, rfl, hy, h4, g4⟩
    have b4 := b3.grown g4 b3.size (fun k hk => by cases hk; exact hr)
    clear b1 b2 b3 g2 g3 g4 h1 h2 h3 h4
    have hp : 2 ^ y ≤ 2 ^ 4 := Nat.pow_le_pow_right (by omega) (by omega)
    go_wp2_with fail
    refine (l4Bit_any _ (by omega) (by omega) _).mono ?_
    rintro e w5 ⟨rfl, b5⟩
    have b5 := b4.trans (b5.mono b4.size)
    clear b4
    go_wp2_with fail
    go_ret2
    have e : ((2 : Int) ^ y) = ((2 ^ y : Nat) : Int) := by simp
    have e0 : (0 : Int) ≤ 2 ^ y := by rw [e]; exact Int.natCast_nonneg _
    have e1 : (2 : Int) ^ y ≤ 16 := by rw [e]; exact_mod_cast hp
    exact ⟨_, _, rfl, ⟨by omega, by omega, by omega, by omega⟩, b5⟩
  · have hx1 : ((x : Int) == 0) = false := by simp; omega
    go_wp2_with fail
    refine (l91Flags_any r 3 (by omega) _ h3).mono ?_
    rintro e w4 ⟨o, rfl, ho, h4, g4⟩
    have b4 := b3.grown g4 b3.size (fun k hk => by cases hk; exact hr)
    clear b1 b2 b3 g2 g3 g4 h1 h2 h3 h4
    go_wp2_with fail
    go_ret2
    exact ⟨_, _, rfl, by omega, b4⟩
theorem DrawFlagsText_any (a : Option Addr) (len cap : Nat) (hcap : len ≤ cap) (w : World) (hc : CodeAt w a len) :
    Calls Tryd.prog 9 #[.slice a len cap] w fun e w' => ∃ f : Int, e = .returned (.int .i64 f) ∧ (-1 ≤ f ∧ f ≤ 32) ∧ Below w.heap.size w w' := by
  go_enter Tryd.func9, Tryd.ntmps9
  go_wp2_with fail
  refine (l6Open_any a len cap hcap w hc).mono ?_
  clear hc
  rintro e w1 ⟨r, hr, rfl, h1, b1⟩
  go_wp2_with fail
  refine (l91Flags_any r 0 (by omega) _ h1).mono ?_
  rintro e w2 ⟨f, rfl, hf, h2, g2⟩
  have b2 := b1.grown g2 b1.size (fun k hk => by cases hk; exact hr)
  clear b1 g2 h1 h2
  go_wp2_with fail
  go_ret
  exact ⟨_, rfl, hf, b2⟩
end Go.Proofs.YtjgelgjllhjlcaaDoor
