/- WALKS: the reference's change of flags, bit by bit; the program's; what both come to. -/
import Derived.Test.YtpahgjideppmoaaFlags
namespace Go.Proofs.Ytpahgjideppmoaa
open Go.RowKit

theorem mod2_cases (f b : Nat) : ((f : Int) / (b : Int) % 2 = 0 ∧ f / b % 2 = 0) ∨ ((f : Int) / (b : Int) % 2 = 1 ∧ f / b % 2 = 1) := by
  rcases Nat.mod_two_eq_zero_or_one (f / b) with h | h
  · exact .inl ⟨by exact_mod_cast h, h⟩
  · exact .inr ⟨by exact_mod_cast h, h⟩
theorem div_bd (f b : Nat) (hf : f < 32) : 0 ≤ (f : Int) / (b : Int) ∧ (f : Int) / (b : Int) ≤ 31 := by
  have h := Int.ediv_le_self (b : Int) (Int.natCast_nonneg f)
  exact ⟨Int.ediv_nonneg (Int.natCast_nonneg _) (Int.natCast_nonneg _), by omega⟩
theorem chgTo_step {how : Int} {f o n b : Nat} (hb : 2 ^ n = b) {x y : Nat} (hx : f / b % 2 = x) (hy : o / b % 2 = y) (z : Bool) (hz : bitOn how x y = z) :
    chgTo how f o (n + 1) = chgTo how f o n + if z then b else 0 := by
  simp only [chgTo, hb, hx, hy, hz]

end Go.Proofs.Ytpahgjideppmoaa
