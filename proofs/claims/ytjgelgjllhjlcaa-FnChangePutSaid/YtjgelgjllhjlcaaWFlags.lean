/- WALKS of the laws on flags. -/
import Derived.Test.YtjgelgjllhjlcaaDrawFlags
import Derived.Test.YtjgelgjllhjlcaaFlags3
namespace Go.Proofs.Ytjgelgjllhjlcaa
open Go.RowKit
set_option linter.unusedVariables false

theorem changed_put {f h o : Int} (hh : h = 0) (hc : 0 ≤ changed f h o) : changed f h o = o := by
  subst hh
  unfold changed at *
  split at hc
  · next e =>
    rw [if_pos e]
    simp only [Bool.and_eq_true, fok_iff] at e
    simp [chg]; omega
  · omega

theorem fnChangePut.walk (a : Option Addr) (len cap : Nat) (hl : len ≤ cap) (hm : cap ≤ maxLen) (w : World) (hc : CodeAt w a len) :
    Calls Try.prog 3 #[.slice a len cap] w fun e w' => e = .returned (.bool true) ∧ Below w.heap.size w w' := by
  unfold maxLen at hm
  by_cases h1 : 1048576 < len
  · go_enter Try.func3, Try.ntmps3
    go_wp2_with fail
    go_ret
    exact ⟨rfl, Below.refl _ _⟩
  · go_enter Try.func3, Try.ntmps3
    go_wp2_with fail
    refine (DrawFlagsChange_any a len cap hl w hc).mono ?_
    rintro e w1 ⟨f, h, o, rfl, hb, b1⟩
    have P := @changed_put f h o
    go_wp2_with fail
    refine (implFlagsChange_any f h o _).mono ?_
    rintro e w2 ⟨rfl, b2⟩
    replace b2 := b1.trans (b2.mono b1.size)
    go_wp2_with fail
    refine (specFlagsChange_any f h o _).mono ?_
    rintro e w3 ⟨rfl, b3⟩
    replace b3 := b2.trans (b3.mono b2.size)
    generalize changed f h o = c at *
    clear hc b1 b2
    by_cases hc0 : c < 0
    · go_wp2_with fail
      go_ret
      exact ⟨by simp, b3⟩
    · by_cases hh : h = 0
      · have := P hh (by omega)
        subst this hh
        clear P
        go_wp2_with fail
        go_ret
        exact ⟨by simp, b3⟩
      · have hh' : (h != 0) = true := by simpa using hh
        clear P
        go_wp2_with fail
        go_ret
        exact ⟨by simp, b3⟩
end Go.Proofs.Ytjgelgjllhjlcaa
