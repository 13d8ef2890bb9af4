/- WALKS: the program's change of flags (a closure chosen by a number, then called), and whether flags contain others, in the program and in the reference. -/
import Derived.Test.YtlkfaamjbecieaaDoorFlags2
namespace Go.Proofs.YtlkfaamjbecieaaDoor
open Go.RowKit

theorem i64_or : ∀ f : Nat, f < 32 → ∀ o : Nat, o < 32 → bits .or .i64 (f : Int) (o : Int) = ((f ||| o : Nat) : Int) := by decide +kernel
theorem i64_and : ∀ f : Nat, f < 32 → ∀ o : Nat, o < 32 → bits .and .i64 (f : Int) (o : Int) = ((f &&& o : Nat) : Int) := by decide +kernel
theorem i64_andNot : ∀ f : Nat, f < 32 → ∀ o : Nat, o < 32 → bits .andNot .i64 (f : Int) (o : Int) = ((f &&& (31 ^^^ o) : Nat) : Int) := by decide +kernel
theorem or_same : ∀ f : Nat, f < 32 → ∀ o : Nat, o < 32 → (((f ||| o) == f) = ((f &&& o) == o)) := by decide +kernel

theorem implFlagsHave_any (f o : Int) (w : World) :
    Calls Tryd.prog 26 #[.int .i64 f, .int .i64 o] w fun e w' => e = .returned (.bool (haveB f o)) ∧ w = w' := by
  rcases hf : fok f with _ | _
  · have hc : haveB f o = false := by simp [haveB, hf]
    have HC := Lib.hid hc; clear hc
    go_enter Tryd.func26, Tryd.ntmps26
    go_wp2_with (go_at_call 42; refine (flagsValid_any _ _).mono ?_; rintro e w' ⟨rfl, rfl⟩)
    go_ret
    exact ⟨by rw [HC.out]; rfl, rfl⟩
  · rcases ho : fok o with _ | _
    · have hc : haveB f o = false := by simp [haveB, ho]
      have HC := Lib.hid hc; clear hc
      go_enter Tryd.func26, Tryd.ntmps26
      go_wp2_with (go_at_call 42; refine (flagsValid_any _ _).mono ?_; rintro e w' ⟨rfl, rfl⟩)
      go_ret
      exact ⟨by rw [HC.out]; rfl, rfl⟩
    · have b1 := (fok_iff f).1 hf
      have b2 := (fok_iff o).1 ho
      obtain ⟨a, rfl⟩ := Int.eq_ofNat_of_zero_le b1.1
      obtain ⟨c, rfl⟩ := Int.eq_ofNat_of_zero_le b2.1
      have x1 := i64_and a (by omega) c (by omega)
      have hc : haveB (a : Int) (c : Int) = (((a &&& c : Nat) : Int) == (c : Int)) := by
        simp only [haveB, hf, ho, Int.toNat_natCast, Bool.true_and]
        rw [Bool.eq_iff_iff]; simp; omega
      rw [← x1] at hc
      have HC := Lib.hid hc; clear hc b1 b2 x1
      go_enter Tryd.func26, Tryd.ntmps26
      go_wp2_with (go_at_call 42; refine (flagsValid_any _ _).mono ?_; rintro e w' ⟨rfl, rfl⟩)
      go_ret
      exact ⟨by rw [HC.out]; rfl, rfl⟩
end Go.Proofs.YtlkfaamjbecieaaDoor
