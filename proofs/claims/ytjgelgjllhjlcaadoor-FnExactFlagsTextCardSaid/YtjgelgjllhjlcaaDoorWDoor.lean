/- WALKS of the laws on flags that name the table of names. -/
import Derived.Test.YtjgelgjllhjlcaaDoorDrawFlags
import Derived.Test.YtjgelgjllhjlcaaDoorJoin
namespace Go.Proofs.YtjgelgjllhjlcaaDoor
open Go.RowKit
set_option linter.unusedVariables false

theorem fnExactFlagsText.walk (f : Int) (_hf : (Lit.int .i64 f).wf = true) (w : World) (hN : Names w) :
    Calls Tryd.prog 3 #[.int .i64 f] w fun e w' => e = .returned (.bool true) ∧ Below w.heap.size w w' := by
  go_enter Tryd.func3, Tryd.ntmps3
  go_wp2_with fail
  refine (specFlagsText_any f _).mono ?_
  rintro e w1 ⟨s, rfl, hs, b1⟩
  have hN1 := hN.below b1
  have HN1 := Lib.hid hN1
  clear hN hN1
  go_wp2_with fail
  refine (implFlagsText_any f _ HN1.out).mono ?_
  rintro e w2 ⟨t, rfl, ht, b2⟩
  obtain rfl := hs.eq ht
  replace b2 := b1.trans (b2.mono b1.size)
  go_wp2_with fail
  go_ret
  exact ⟨by simp, b2⟩
end Go.Proofs.YtjgelgjllhjlcaaDoor
