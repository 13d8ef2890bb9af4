/- WALKS of the laws on flags that name the table of names. -/
import Derived.Test.YtjgelgjllhjlcaaDoorDrawFlags
import Derived.Test.YtjgelgjllhjlcaaDoorJoin
namespace Go.Proofs.YtjgelgjllhjlcaaDoor
open Go.RowKit
set_option linter.unusedVariables false

theorem fnExactFlagsText.walk (f : Int) (_hf : (Lit.int .i64 f).wf = true) (w : World) (hN : Names w) :
    Calls Tryd.prog 3 #[.int .i64 f] w fun e w' => e = .returned (.bool true) ∧ Below w.heap.size w w' := by
  go_enter Tryd.func3, Tryd.ntmps3
  go_wp2_with fail
  refine (specFlagsText_any f _).mono ?_
  rintro e w1 ⟨s, rfl, hs, b1⟩
  have hN1 := hN.below b1
  have HN1 := Lib.hid hN1
  clear hN hN1
  go_wp2_with fail
  refine (implFlagsText_any f _ HN1.out).mono ?_
  rintro e w2 ⟨t, rfl, ht, b2⟩
  obtain rfl := hs.eq ht
  replace b2 := b1.trans (b2.mono b1.size)
  go_wp2_with fail
  go_ret
  exact ⟨by simp, b2⟩

theorem fok_text (f : Int) : fok f = false ∨ (fok f = true ∧ ∃ a : Nat, f = (a : Int) ∧ a < 32) := by
  rcases hf : fok f with _ | _
  · exact .inl rfl
  · have := (fok_iff f).1 hf
    obtain ⟨a, rfl⟩ := Int.eq_ofNat_of_zero_le this.1
    exact .inr ⟨rfl, a, rfl, by omega⟩
theorem txt_facts : ∀ a, a < 32 → 2 ≤ (txtTo a 5 ++ [41]).length ∧ (txtTo a 5 ++ [41])[0]? = some 40 ∧ (txtTo a 5 ++ [41])[(txtTo a 5 ++ [41]).length - 1]? = some 41 ∧ ((txtTo a 5 ++ [41]) == [40, 41]) = (a == 0) := by decide +kernel
theorem text_facts {a : Nat} (ha : a < 32) {s : ByteArray} (hs : StrIs s (flagsTxt (a : Int))) :
    2 ≤ s.size ∧ (∀ h : 0 < s.size, s[0].toNat = 40) ∧ (∀ h : s.size - 1 < s.size, s[s.size - 1].toNat = 41) ∧ (s.toList == [40, 41]) = (a == 0) := by
  have hf : flagsTxt (a : Int) = txtTo a 5 ++ [41] := by simp [flagsTxt, fok_nat ha]
  rw [hf] at hs
  obtain ⟨h1, h2, h3, h4⟩ := txt_facts a ha
  have hz := hs.size
  have hget : ∀ i (h : i < s.size) (v : UInt8), (txtTo a 5 ++ [41])[i]? = some v → s[i] = v := by
    intro i h v hv
    unfold StrIs at hs
    rw [← hs] at hv
    have : s.data.toList[i]? = some s.data[i] := by rw [List.getElem?_eq_getElem (by simpa using h)]; simp
    rw [this] at hv
    exact Option.some.inj hv
  refine ⟨by omega, fun h => by rw [hget 0 h 40 h2]; rfl, fun h => by rw [hget _ h 41 (by rw [hz]; exact h3)]; rfl, by rw [hs.toList]; exact h4⟩
set_option maxHeartbeats 400000 in
theorem fnFlagsText.walk (a : Option Addr) (len cap : Nat) (hl : len ≤ cap) (hm : cap ≤ maxLen) (w : World) (hN : Names w) (hc : CodeAt w a len) :
    Calls Tryd.prog 4 #[.slice a len cap] w fun e w' => e = .returned (.bool true) ∧ Below w.heap.size w w' := by
  unfold maxLen at hm
  have HN := Lib.hid hN
  clear hN
  by_cases h1 : 1048576 < len
  · go_enter Tryd.func4, Tryd.ntmps4
    go_wp2_with fail
    go_ret
    exact ⟨rfl, Below.refl _ _⟩
  · go_enter Tryd.func4, Tryd.ntmps4
    go_wp2_with fail
    refine (DrawFlagsText_any a len cap hl w hc).mono ?_
    rintro e w1 ⟨f, rfl, hb, b1⟩
    go_wp2_with fail
    refine (implFlagsText_any f _ (HN.out.below b1)).mono ?_
    rintro e w2 ⟨s, rfl, hs, b2⟩
    replace b2 := b1.trans (b2.mono b1.size)
    go_wp2_with fail
    refine (specFlagsText_any f _).mono ?_
    rintro e w3 ⟨t, rfl, ht, b3⟩
    replace b3 := b2.trans (b3.mono b2.size)
    obtain rfl := hs.eq ht
    clear ht
    rcases fok_text f with hf | ⟨hf, n, rfl, hn⟩
    · have e1 := txt_nil hs hf
      rcases fok_no hf with h2 | h2
      · clear hs hf
        go_wp2_with fail
        go_ret
        exact ⟨by simp, b3⟩
      · have h3 : ¬ f < 0 := by omega
        clear hs hf
        go_wp2_with fail
        go_ret
        exact ⟨by simp, b3⟩
    · obtain ⟨g1, g2, g3, g4⟩ := text_facts hn hs
      have g5 : s.size ≤ 47 := by rw [hs.size]; exact flagsTxt_len _
      have g2 := g2 (by omega)
      have g3 := g3 (by omega)
      have h2 : ¬ (n : Int) < 0 := by omega
      have h3 : ¬ 31 < (n : Int) := by omega
      clear hs hf
      have g6 : ((n == 0) == ((n : Int) == 0)) = true := by rw [beq_iff_eq, Bool.eq_iff_iff]; simp
      have HG := Lib.hid g6
      clear g6
      go_wp2_with fail
      go_ret
      exact ⟨ret_bool HG.out, b3⟩
set_option maxHeartbeats 400000 in
theorem fnHaveSelf.walk (a : Option Addr) (len cap : Nat) (hl : len ≤ cap) (hm : cap ≤ maxLen) (w : World) (hN : Names w) (hc : CodeAt w a len) :
    Calls Tryd.prog 5 #[.slice a len cap] w fun e w' => e = .returned (.bool true) ∧ Below w.heap.size w w' := by
  unfold maxLen at hm
  have HN := Lib.hid hN
  clear hN
  by_cases h1 : 1048576 < len
  · go_enter Tryd.func5, Tryd.ntmps5
    go_wp2_with fail
    go_ret
    exact ⟨rfl, Below.refl _ _⟩
  · go_enter Tryd.func5, Tryd.ntmps5
    go_wp2_with fail
    refine (DrawFlagsHave_any a len cap hl w hc).mono ?_
    rintro e w1 ⟨f, o, rfl, hb, b1⟩
    go_wp2_with fail
    refine (implFlagsHave_any f o _).mono ?_
    rintro e w' ⟨rfl, rfl⟩
    go_wp2_with fail
    refine (specFlagsHave_any f o _).mono ?_
    rintro e w2 ⟨rfl, b2⟩
    replace b2 := b1.trans (b2.mono b1.size)
    generalize haveB f o = c at *
    go_wp2_with fail
    refine (implFlagsText_any f _ (HN.out.below b2)).mono ?_
    rintro e w3 ⟨s, rfl, hs, b3⟩
    replace b3 := b2.trans (b3.mono b2.size)
    obtain ⟨q1, q2, q3⟩ := haveB_self f
    rcases hf : fok f with _ | _
    · have e1 := txt_nil hs hf
      rw [hf] at q1 q2 q3
      have Q1 := Lib.hid q1; have Q2 := Lib.hid q2; have Q3 := Lib.hid q3
      clear hs hf q1 q2 q3 hc
      go_wp2_with fail
      refine (implFlagsHave_any f f _).mono ?_
      rintro e w' ⟨rfl, rfl⟩
      rw [Q1.out]
      go_wp2_with fail
      refine (implFlagsHave_any f 0 _).mono ?_
      rintro e w' ⟨rfl, rfl⟩
      rw [Q2.out]
      go_wp2_with fail
      refine (implFlagsHave_any 31 f _).mono ?_
      rintro e w' ⟨rfl, rfl⟩
      rw [Q3.out]
      go_wp2_with fail
      go_ret
      exact ⟨by simp, b3⟩
    · have e1 := txt_ne hs hf
      have e2 := isEmpty_no e1
      rw [hf] at q1 q2 q3
      have Q1 := Lib.hid q1; have Q2 := Lib.hid q2; have Q3 := Lib.hid q3
      clear hs hf q1 q2 q3 hc
      go_wp2_with fail
      refine (implFlagsHave_any f f _).mono ?_
      rintro e w' ⟨rfl, rfl⟩
      rw [Q1.out]
      go_wp2_with fail
      refine (implFlagsHave_any f 0 _).mono ?_
      rintro e w' ⟨rfl, rfl⟩
      rw [Q2.out]
      go_wp2_with fail
      refine (implFlagsHave_any 31 f _).mono ?_
      rintro e w' ⟨rfl, rfl⟩
      rw [Q3.out]
      go_wp2_with fail
      go_ret
      exact ⟨by simp, b3⟩
set_option maxHeartbeats 400000 in
theorem fnChangeBad.walk (a : Option Addr) (len cap : Nat) (hl : len ≤ cap) (hm : cap ≤ maxLen) (w : World) (hN : Names w) (hc : CodeAt w a len) :
    Calls Tryd.prog 6 #[.slice a len cap] w fun e w' => e = .returned (.bool true) ∧ Below w.heap.size w w' := by
  unfold maxLen at hm
  have HN := Lib.hid hN
  clear hN
  by_cases h1 : 1048576 < len
  · go_enter Tryd.func6, Tryd.ntmps6
    go_wp2_with fail
    go_ret
    exact ⟨rfl, Below.refl _ _⟩
  · go_enter Tryd.func6, Tryd.ntmps6
    go_wp2_with fail
    refine (DrawFlagsChange_any a len cap hl w hc).mono ?_
    rintro e w1 ⟨f, h, o, rfl, hb, b1⟩
    go_wp2_with fail
    refine (implFlagsChange_any f h o _).mono ?_
    rintro e w2 ⟨rfl, b2⟩
    replace b2 := b1.trans (b2.mono b1.size)
    go_wp2_with fail
    refine (specFlagsChange_any f h o _).mono ?_
    rintro e w3 ⟨rfl, b3⟩
    replace b3 := b2.trans (b3.mono b2.size)
    have P := changed_bad f h o
    generalize changed f h o = c at *
    by_cases h2 : h < -1
    · have P' : (c == -1) = true := by rw [← P]; simp [h2]
      clear P hc
      go_wp2_with fail
      go_ret
      exact ⟨by simp, b3⟩
    by_cases h3 : 1 < h
    · have P' : (c == -1) = true := by rw [← P]; simp [h3]
      clear P hc
      go_wp2_with fail
      go_ret
      exact ⟨by simp, b3⟩
    rcases hf : fok f with _ | _
    · have P' : (c == -1) = true := by rw [← P]; simp [hf]
      clear P hc
      go_wp2_with fail
      refine (implFlagsText_any f _ (HN.out.below b3)).mono ?_
      rintro e w4 ⟨s, rfl, hs, b4⟩
      replace b4 := b3.trans (b4.mono b3.size)
      have e1 := txt_nil hs hf
      clear hs hf
      go_wp2_with fail
      go_ret
      exact ⟨by simp, b4⟩
    rcases ho : fok o with _ | _
    · have P' : (c == -1) = true := by rw [← P]; simp [ho]
      clear P hc
      go_wp2_with fail
      refine (implFlagsText_any f _ (HN.out.below b3)).mono ?_
      rintro e w4 ⟨s, rfl, hs, b4⟩
      replace b4 := b3.trans (b4.mono b3.size)
      have e1 := txt_ne hs hf
      have e2 := isEmpty_no e1
      clear hs hf
      go_wp2_with fail
      refine (implFlagsText_any o _ (HN.out.below b4)).mono ?_
      rintro e w5 ⟨t, rfl, ht, b5⟩
      replace b5 := b4.trans (b5.mono b4.size)
      have e3 := txt_nil ht ho
      clear ht ho
      go_wp2_with fail
      go_ret
      exact ⟨by simp, b5⟩
    · have P' : (c == -1) = false := by rw [← P]; simp [hf, ho, h2, h3]
      clear P hc
      go_wp2_with fail
      refine (implFlagsText_any f _ (HN.out.below b3)).mono ?_
      rintro e w4 ⟨s, rfl, hs, b4⟩
      replace b4 := b3.trans (b4.mono b3.size)
      have e1 := txt_ne hs hf
      have e2 := isEmpty_no e1
      clear hs hf
      go_wp2_with fail
      refine (implFlagsText_any o _ (HN.out.below b4)).mono ?_
      rintro e w5 ⟨t, rfl, ht, b5⟩
      replace b5 := b4.trans (b5.mono b4.size)
      have e3 := txt_ne ht ho
      have e4 := isEmpty_no e3
      clear ht ho
      go_wp2_with fail
      go_ret
      exact ⟨by simp; omega, b5⟩
end Go.Proofs.YtjgelgjllhjlcaaDoor
