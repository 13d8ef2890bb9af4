/- WALKS of the laws on flags. -/
import Derived.Test.YtjgelgjllhjlcaaDrawFlags
import Derived.Test.YtjgelgjllhjlcaaFlags3
import Derived.Test.YtjgelgjllhjlcaaText
namespace Go.Proofs.Ytjgelgjllhjlcaa
open Go.RowKit
set_option linter.unusedVariables false

set_option maxHeartbeats 400000 in
theorem fnChangePut.walk (a : Option Addr) (len cap : Nat) (hl : len ≤ cap) (hm : cap ≤ maxLen) (w : World) (hc : CodeAt w a len) :
    Calls Try.prog 3 #[.slice a len cap] w fun e w' => e = .returned (.bool true) ∧ Below w.heap.size w w' := by
  unfold maxLen at hm
  by_cases h1 : 1048576 < len
  · go_enter Try.func3, Try.ntmps3
    go_wp2_with fail
    go_ret
    exact ⟨rfl, Below.refl _ _⟩
  · go_enter Try.func3, Try.ntmps3
    go_wp2_with fail
    refine (DrawFlagsChange_any a len cap hl w hc).mono ?_
    rintro e w1 ⟨f, h, o, rfl, hb, b1⟩
    go_wp2_with fail
    refine (implFlagsChange_any f h o _).mono ?_
    rintro e w2 ⟨rfl, b2⟩
    replace b2 := b1.trans (b2.mono b1.size)
    go_wp2_with fail
    refine (specFlagsChange_any f h o _).mono ?_
    rintro e w3 ⟨rfl, b3⟩
    replace b3 := b2.trans (b3.mono b2.size)
    by_cases hc0 : changed f h o < 0
    · generalize changed f h o = c at *
      go_wp2_with fail
      go_ret
      exact ⟨by simp, b3⟩
    · by_cases hh : h = 0
      · have P := changed_put hh (by omega : 0 ≤ changed f h o)
        generalize changed f h o = c at *
        subst P hh
        go_wp2_with fail
        go_ret
        exact ⟨by simp, b3⟩
      · have hh' : (h != 0) = true := by simpa using hh
        generalize changed f h o = c at *
        go_wp2_with fail
        go_ret
        exact ⟨by simp, b3⟩
set_option maxHeartbeats 400000 in
theorem fnChangeTwice.walk (a : Option Addr) (len cap : Nat) (hl : len ≤ cap) (hm : cap ≤ maxLen) (w : World) (hc : CodeAt w a len) :
    Calls Try.prog 4 #[.slice a len cap] w fun e w' => e = .returned (.bool true) ∧ Below w.heap.size w w' := by
  unfold maxLen at hm
  by_cases h1 : 1048576 < len
  · go_enter Try.func4, Try.ntmps4
    go_wp2_with fail
    go_ret
    exact ⟨rfl, Below.refl _ _⟩
  · go_enter Try.func4, Try.ntmps4
    go_wp2_with fail
    refine (DrawFlagsChange_any a len cap hl w hc).mono ?_
    rintro e w1 ⟨f, h, o, rfl, hb, b1⟩
    go_wp2_with fail
    refine (implFlagsChange_any f h o _).mono ?_
    rintro e w2 ⟨rfl, b2⟩
    replace b2 := b1.trans (b2.mono b1.size)
    go_wp2_with fail
    refine (specFlagsChange_any f h o _).mono ?_
    rintro e w3 ⟨rfl, b3⟩
    replace b3 := b2.trans (b3.mono b2.size)
    by_cases hc0 : changed f h o < 0
    · generalize changed f h o = c at *
      go_wp2_with fail
      go_ret
      exact ⟨by simp, b3⟩
    · have P := Lib.hid (changed_twice (by omega : 0 ≤ changed f h o))
      obtain ⟨c, hcc⟩ : ∃ c, changed f h o = c := ⟨_, rfl⟩
      rw [hcc] at hc0 P ⊢
      clear hcc
      go_wp2_with fail
      refine (implFlagsChange_any c h o _).mono ?_
      rintro e w4 ⟨rfl, b4⟩
      replace b4 := b3.trans (b4.mono b3.size)
      rw [P.out]
      go_wp2_with fail
      go_ret
      exact ⟨by simp, b4⟩
set_option maxHeartbeats 400000 in
theorem fnChangeRemove.walk (a : Option Addr) (len cap : Nat) (hl : len ≤ cap) (hm : cap ≤ maxLen) (w : World) (hc : CodeAt w a len) :
    Calls Try.prog 5 #[.slice a len cap] w fun e w' => e = .returned (.bool true) ∧ Below w.heap.size w w' := by
  unfold maxLen at hm
  by_cases h1 : 1048576 < len
  · go_enter Try.func5, Try.ntmps5
    go_wp2_with fail
    go_ret
    exact ⟨rfl, Below.refl _ _⟩
  · go_enter Try.func5, Try.ntmps5
    go_wp2_with fail
    refine (DrawFlagsChange_any a len cap hl w hc).mono ?_
    rintro e w1 ⟨f, h, o, rfl, hb, b1⟩
    go_wp2_with fail
    refine (implFlagsChange_any f h o _).mono ?_
    rintro e w2 ⟨rfl, b2⟩
    replace b2 := b1.trans (b2.mono b1.size)
    go_wp2_with fail
    refine (specFlagsChange_any f h o _).mono ?_
    rintro e w3 ⟨rfl, b3⟩
    replace b3 := b2.trans (b3.mono b2.size)
    by_cases hc0 : changed f h o < 0
    · generalize changed f h o = c at *
      go_wp2_with fail
      go_ret
      exact ⟨by simp, b3⟩
    · by_cases hh : h = -1
      · subst hh
        obtain ⟨P1, P2, P3⟩ := changed_remove (by omega : 0 ≤ changed f (-1) o)
        obtain ⟨c, hcc⟩ : ∃ c, changed f (-1) o = c := ⟨_, rfl⟩
        rw [hcc] at hc0 P1 P2 P3 ⊢
        obtain ⟨c2, hc2⟩ : ∃ c2, changed f 1 o = c2 := ⟨_, rfl⟩
        rw [hc2] at P3
        have Q1 := Lib.hid P1
        have Q2 := Lib.hid P2
        have Q3 := Lib.hid P3
        have Q4 := Lib.hid hc2
        clear hcc hc2 P1 P2 P3
        go_wp2_with fail
        refine (implFlagsHave_any f c _).mono ?_
        rintro e w' ⟨rfl, rfl⟩
        rw [Q1.out]
        go_wp2_with fail
        refine (implFlagsChange_any c (-1) o _).mono ?_
        rintro e w4 ⟨rfl, b4⟩
        replace b4 := b3.trans (b4.mono b3.size)
        rw [Q2.out]
        go_wp2_with fail
        refine (implFlagsChange_any c 1 o _).mono ?_
        rintro e w5 ⟨rfl, b5⟩
        replace b5 := b4.trans (b5.mono b4.size)
        rw [Q3.out]
        go_wp2_with fail
        refine (implFlagsChange_any f 1 o _).mono ?_
        rintro e w6 ⟨rfl, b6⟩
        replace b6 := b5.trans (b6.mono b5.size)
        rw [Q4.out]
        go_wp2_with fail
        go_ret
        exact ⟨by simp, b6⟩
      · have hh' : (h != -1) = true := by simpa using hh
        generalize changed f h o = c at *
        go_wp2_with fail
        go_ret
        exact ⟨by simp, b3⟩
set_option maxHeartbeats 400000 in
theorem fnChangeSet.walk (a : Option Addr) (len cap : Nat) (hl : len ≤ cap) (hm : cap ≤ maxLen) (w : World) (hc : CodeAt w a len) :
    Calls Try.prog 6 #[.slice a len cap] w fun e w' => e = .returned (.bool true) ∧ Below w.heap.size w w' := by
  unfold maxLen at hm
  by_cases h1 : 1048576 < len
  · go_enter Try.func6, Try.ntmps6
    go_wp2_with fail
    go_ret
    exact ⟨rfl, Below.refl _ _⟩
  · go_enter Try.func6, Try.ntmps6
    go_wp2_with fail
    refine (DrawFlagsChange_any a len cap hl w hc).mono ?_
    rintro e w1 ⟨f, h, o, rfl, hb, b1⟩
    go_wp2_with fail
    refine (implFlagsChange_any f h o _).mono ?_
    rintro e w2 ⟨rfl, b2⟩
    replace b2 := b1.trans (b2.mono b1.size)
    go_wp2_with fail
    refine (specFlagsChange_any f h o _).mono ?_
    rintro e w3 ⟨rfl, b3⟩
    replace b3 := b2.trans (b3.mono b2.size)
    by_cases hc0 : changed f h o < 0
    · generalize changed f h o = c at *
      go_wp2_with fail
      go_ret
      exact ⟨by simp, b3⟩
    · by_cases hh : h = 1
      · subst hh
        obtain ⟨P1, P2, P3⟩ := changed_set (by omega : 0 ≤ changed f 1 o)
        obtain ⟨c, hcc⟩ : ∃ c, changed f 1 o = c := ⟨_, rfl⟩
        rw [hcc] at hc0 P1 P2 P3 ⊢
        have Q1 := Lib.hid P1
        have Q2 := Lib.hid P2
        clear hcc P1 P2
        go_wp2_with fail
        refine (implFlagsHave_any c f _).mono ?_
        rintro e w' ⟨rfl, rfl⟩
        rw [Q1.out]
        go_wp2_with fail
        refine (implFlagsHave_any c o _).mono ?_
        rintro e w' ⟨rfl, rfl⟩
        rw [Q2.out]
        go_wp2_with fail
        go_ret
        exact ⟨by simp, b3⟩
      · have hh' : (h != 1) = true := by simpa using hh
        generalize changed f h o = c at *
        go_wp2_with fail
        go_ret
        exact ⟨by simp, b3⟩
set_option maxHeartbeats 400000 in
theorem fnHave.walk (a : Option Addr) (len cap : Nat) (hl : len ≤ cap) (hm : cap ≤ maxLen) (w : World) (hc : CodeAt w a len) :
    Calls Try.prog 7 #[.slice a len cap] w fun e w' => e = .returned (.bool true) ∧ Below w.heap.size w w' := by
  unfold maxLen at hm
  by_cases h1 : 1048576 < len
  · go_enter Try.func7, Try.ntmps7
    go_wp2_with fail
    go_ret
    exact ⟨rfl, Below.refl _ _⟩
  · go_enter Try.func7, Try.ntmps7
    go_wp2_with fail
    refine (DrawFlagsHave_any a len cap hl w hc).mono ?_
    rintro e w1 ⟨f, o, rfl, hb, b1⟩
    go_wp2_with fail
    refine (implFlagsHave_any f o _).mono ?_
    rintro e w' ⟨rfl, rfl⟩
    go_wp2_with fail
    refine (specFlagsHave_any f o _).mono ?_
    rintro e w2 ⟨rfl, b2⟩
    replace b2 := b1.trans (b2.mono b1.size)
    rcases hf : fok f with _ | _
    · generalize haveB f o = c at *
      go_wp2_with fail
      refine (specFlagsText_any f _).mono ?_
      rintro e w3 ⟨s, rfl, hs, b3⟩
      replace b3 := b2.trans (b3.mono b2.size)
      have e1 := txt_nil hs hf
      clear hs hf
      go_wp2_with fail
      go_ret
      exact ⟨by simp, b3⟩
    · rcases ho : fok o with _ | _
      · generalize haveB f o = c at *
        go_wp2_with fail
        refine (specFlagsText_any f _).mono ?_
        rintro e w3 ⟨s, rfl, hs, b3⟩
        replace b3 := b2.trans (b3.mono b2.size)
        have e1 := txt_ne hs hf
        have e2 := isEmpty_no e1
        clear hs hf
        go_wp2_with fail
        refine (specFlagsText_any o _).mono ?_
        rintro e w4 ⟨t, rfl, ht, b4⟩
        replace b4 := b3.trans (b4.mono b3.size)
        have e3 := txt_nil ht ho
        clear ht ho
        go_wp2_with fail
        go_ret
        exact ⟨by simp, b4⟩
      · have P := have_changed hf ho
        generalize haveB f o = c at *
        have HP := Lib.hid P
        clear P
        go_wp2_with fail
        refine (specFlagsText_any f _).mono ?_
        rintro e w3 ⟨s, rfl, hs, b3⟩
        replace b3 := b2.trans (b3.mono b2.size)
        have e1 := txt_ne hs hf
        have e2 := isEmpty_no e1
        clear hs hf
        go_wp2_with fail
        refine (specFlagsText_any o _).mono ?_
        rintro e w4 ⟨t, rfl, ht, b4⟩
        replace b4 := b3.trans (b4.mono b3.size)
        have e3 := txt_ne ht ho
        have e4 := isEmpty_no e3
        clear ht ho
        go_wp2_with fail
        refine (implFlagsChange_any f 1 o _).mono ?_
        rintro e w5 ⟨rfl, b5⟩
        replace b5 := b4.trans (b5.mono b4.size)
        rw [HP.out]
        generalize changed f 1 o = d at *
        go_wp2_with fail
        go_ret
        exact ⟨by simp, b5⟩
end Go.Proofs.Ytjgelgjllhjlcaa
