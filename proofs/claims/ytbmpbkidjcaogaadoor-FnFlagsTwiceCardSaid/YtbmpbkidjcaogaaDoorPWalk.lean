/- WALKS of the laws on the reading of flags' texts. -/
import Derived.Test.YtbmpbkidjcaogaaDoorPDraw
import Derived.Test.YtbmpbkidjcaogaaDoorFrame
import Derived.Deep.RegionWith
import Derived.IntWalk
import Derived.Deep.Cut
namespace Go.Proofs.YtbmpbkidjcaogaaDoor
open Go.RowKit
set_option linter.unusedVariables false

theorem parse_two (s : ByteArray) : ∃ p q, parseL s.data.toList = (p, q) := ⟨_, _, rfl⟩
theorem implP (s : ByteArray) (hs : s.size ≤ 1000000000) (w : World) (hN : Names w) {p : Nat} {q : Bool} (hp : parseL s.data.toList = (p, q)) :
    Calls Tryd.prog 9 #[.string s] w fun e w' => e = .returned (.tuple #[.int .i64 (p : Int), .bool q]) ∧ Below w.heap.size w w' := by
  have h := implFlagsParse_any s hs w hN
  rw [hp] at h; exact h
theorem specP (s : ByteArray) (hs : s.size ≤ 10000000) (w : World) {p : Nat} {q : Bool} (hp : parseL s.data.toList = (p, q)) :
    Calls Tryd.prog 8 #[.string s] w fun e w' => e = .returned (.tuple #[.int .i64 (p : Int), .bool q]) ∧ Below w.heap.size w w' := by
  have h := specFlagsParse_any s hs w
  rw [hp] at h; exact h
theorem parse_size {s : ByteArray} {p : Nat} (h : parseL s.data.toList = (p, true)) : 2 ≤ s.size := by
  rcases hi : innerL s.data.toList with _ | i
  · rw [parse_none hi] at h; cases h
  · have ht := inner_is hi
    have hl := congrArg List.length ht
    rw [size_list]; simp at hl ⊢; omega
theorem fok_two (f : Int) : fok f = false ∨ (fok f = true ∧ ∃ a : Nat, f = (a : Int) ∧ a < 32) := by
  rcases hf : fok f with _ | _
  · exact .inl rfl
  · simp [fok] at hf
    obtain ⟨a, rfl⟩ := Int.eq_ofNat_of_zero_le hf.1
    exact .inr ⟨rfl, a, rfl, by omega⟩
theorem cat_list (s t : ByteArray) : (s ++ t).data.toList = s.data.toList ++ t.data.toList := by rw [ByteArray.data_append, Array.toList_append]
theorem ext_drop (s : ByteArray) : (s.extract 0 (s.size - 1)).data.toList = s.data.toList.dropLast := by
  rw [← ByteArray.toList_eq, ext_list, List.drop_zero, List.dropLast_eq_take, ← size_list, Nat.sub_zero]
theorem ext_tail (s : ByteArray) : (s.extract 1 s.size).data.toList = s.data.toList.drop 1 := by
  rw [← ByteArray.toList_eq, ext_list, List.take_of_length_le (by rw [List.length_drop, ← size_list]; omega)]
theorem ext_size (s : ByteArray) (a b : Nat) : (s.extract a b).size ≤ b := by rw [ByteArray.size_extract]; omega
set_option maxHeartbeats 1000000 in
theorem fnExactFlagsParse.walk (s : ByteArray) (hm : s.size ≤ maxLen) (w : World) (hN : Names w) :
    Calls Tryd.prog 3 #[.string s] w fun e w' => e = .returned (.bool true) ∧ Below w.heap.size w w' := by
  unfold maxLen at hm
  by_cases h1 : 1048576 < s.size
  · go_enter Tryd.func3, Tryd.ntmps3
    go_wp2_with fail
    go_ret
    exact ⟨rfl, Below.refl _ _⟩
  · obtain ⟨p, q, hp⟩ := parse_two s
    have HP := Lib.hid hp; clear hp
    have HN := Lib.hid hN; clear hN
    go_enter Tryd.func3, Tryd.ntmps3
    go_wp2_with fail
    refine (specP s (by omega) w HP.out).mono ?_
    rintro e w1 ⟨rfl, b1⟩
    go_wp2_with fail
    refine (implP s (by omega) w1 (HN.out.below b1) HP.out).mono ?_
    rintro e w2 ⟨rfl, b2⟩
    replace b2 := b1.trans (b2.mono b1.size)
    go_wp2_with fail
    go_ret
    exact ⟨rfl, b2⟩
set_option maxRecDepth 100000 in
set_option maxHeartbeats 1000000 in
theorem fnFlags.walk (a : Option Addr) (len cap : Nat) (hl : len ≤ cap) (hm : cap ≤ maxLen) (w : World) (hN : Names w) (hc : CodeAt w a len) :
    Calls Tryd.prog 6 #[.slice a len cap] w fun e w' => e = .returned (.bool true) ∧ Below w.heap.size w w' := by
  unfold maxLen at hm
  have HN := Lib.hid hN
  clear hN
  by_cases h1 : 1048576 < len
  · go_enter Tryd.func6, Tryd.ntmps6
    go_wp2_with fail
    go_ret
    exact ⟨rfl, Below.refl _ _⟩
  · go_enter Tryd.func6, Tryd.ntmps6
    go_wp2_with fail
    refine (DrawFlagsText_any a len cap hl w hc).mono ?_
    clear hc
    rintro e w1 ⟨f, rfl, hb, b1⟩
    go_wp2_with fail
    refine (implFlagsText_any f _ (HN.out.below b1)).mono ?_
    rintro e w2 ⟨s, rfl, hs, b2⟩
    replace b2 := b1.trans (b2.mono b1.size)
    go_wp2_with fail
    refine (specFlagsText_any f _).mono ?_
    rintro e w3 ⟨t, rfl, ht, b3⟩
    replace b3 := b2.trans (b3.mono b2.size)
    clear b1 b2
    obtain rfl := hs.eq ht
    clear ht
    rcases fok_two f with hf | ⟨hf, n, rfl, hn⟩
    · have e1 := txt_nil hs hf
      clear hs hf
      go_wp2_with fail
      go_ret
      exact ⟨by simp, b3⟩
    · have e1 := txt_ne hs hf
      have hp := parse_text hf
      have hz : s.size ≤ 47 := by rw [hs.size]; exact flagsTxt_len _
      rw [← (show s.data.toList = flagsTxt (n : Int) from hs)] at hp
      have HP := Lib.hid hp
      clear hs hf hp
      go_wp2_with fail
      · rename_i hx; exact absurd (List.isEmpty_iff.1 hx) e1
      refine (implP s (by omega) _ (HN.out.below b3) HP.out).mono ?_
      rintro e w4 ⟨rfl, b4⟩
      replace b4 := b3.trans (b4.mono b3.size)
      clear HP b3
      go_wp2_with fail
      go_ret
      exact ⟨by simp, b4⟩
set_option maxRecDepth 100000 in
set_option maxHeartbeats 1000000 in
theorem fnFlagsParse.walk (a : Option Addr) (len cap : Nat) (hl : len ≤ cap) (hm : cap ≤ maxLen) (w : World) (hN : Names w) (hc : CodeAt w a len) :
    Calls Tryd.prog 7 #[.slice a len cap] w fun e w' => e = .returned (.bool true) ∧ Below w.heap.size w w' := by
  unfold maxLen at hm
  have HN := Lib.hid hN
  clear hN
  by_cases h1 : 1048576 < len
  · go_enter Tryd.func7, Tryd.ntmps7
    go_wp2_with fail
    go_ret
    exact ⟨rfl, Below.refl _ _⟩
  · go_enter Tryd.func7, Tryd.ntmps7
    go_wp2_with fail
    refine (DrawFlagsParse_any a len cap hl w hc).mono ?_
    clear hc
    rintro e w1 ⟨s, rfl, hz, b1⟩
    obtain ⟨p, q, hp⟩ := parse_two s
    have HP := Lib.hid hp; clear hp
    go_wp2_with fail
    refine (implP s (by omega) _ (HN.out.below b1) HP.out).mono ?_
    rintro e w2 ⟨rfl, b2⟩
    replace b2 := b1.trans (b2.mono b1.size)
    go_wp2_with fail
    refine (specP s (by omega) _ HP.out).mono ?_
    rintro e w3 ⟨rfl, b3⟩
    replace b3 := b2.trans (b3.mono b2.size)
    clear b1 b2
    rcases q with _ | _
    · go_wp2_with fail
      go_ret
      exact ⟨by simp, b3⟩
    · go_wp2_with fail
      refine (implFlagsText_any (p : Int) _ (HN.out.below b3)).mono ?_
      rintro e w4 ⟨t, rfl, ht, b4⟩
      replace b4 := b3.trans (b4.mono b3.size)
      have ht' : t.data.toList = flagsTxt (p : Int) := ht
      have hb := parse_back HP.out
      rw [← ht'] at hb
      have hlen := parse_len HP.out
      rw [← ht', ← size_list, ← size_list] at hlen
      have HB := Lib.hid hb
      clear b3 ht ht' hb HP
      go_wp2_with fail
      refine (implP t (by omega) _ (HN.out.below b4) HB.out).mono ?_
      rintro e w5 ⟨rfl, b5⟩
      replace b5 := b4.trans (b5.mono b4.size)
      clear HB b4
      go_wp2_with fail
      go_ret
      exact ⟨by simp, b5⟩
set_option maxRecDepth 100000 in
set_option maxHeartbeats 1000000 in
theorem fnFlagsOrder.walk (a : Option Addr) (len cap : Nat) (hl : len ≤ cap) (hm : cap ≤ maxLen) (w : World) (hN : Names w) (hc : CodeAt w a len) :
    Calls Tryd.prog 4 #[.slice a len cap] w fun e w' => e = .returned (.bool true) ∧ Below w.heap.size w w' := by
  unfold maxLen at hm
  have HN := Lib.hid hN
  clear hN
  by_cases h1 : 1048576 < len
  · go_enter Tryd.func4, Tryd.ntmps4
    go_wp2_with fail
    go_ret
    exact ⟨rfl, Below.refl _ _⟩
  · go_enter Tryd.func4, Tryd.ntmps4
    go_wp2_with fail
    refine (DrawFlagsParse_any a len cap hl w hc).mono ?_
    clear hc
    rintro e w1 ⟨s, rfl, hz, b1⟩
    obtain ⟨p, q, hp⟩ := parse_two s
    have HP := Lib.hid hp; clear hp
    go_wp2_with fail
    refine (implP s (by omega) _ (HN.out.below b1) HP.out).mono ?_
    rintro e w2 ⟨rfl, b2⟩
    replace b2 := b1.trans (b2.mono b1.size)
    go_wp2_with fail
    refine (specP s (by omega) _ HP.out).mono ?_
    rintro e w3 ⟨rfl, b3⟩
    replace b3 := b2.trans (b3.mono b2.size)
    clear b1 b2
    rcases q with _ | _
    · go_wp2_with fail
      go_ret
      exact ⟨by simp, b3⟩
    · by_cases h0 : p = 0
      · subst h0
        go_wp2_with fail
        go_ret
        exact ⟨by simp, b3⟩
      · have e0 : ((p : Int) == 0) = false := beq_eq_false_iff_ne.2 (by omega)
        by_cases h2 : p % 2 = 0
        · have e2 : ((p : Int) % 2 == 1) = false := beq_eq_false_iff_ne.2 (by omega)
          have hs2 := parse_size HP.out
          have hp32 : p < 32 := by have := parse_lt s.data.toList; rw [HP.out] at this; exact this
          have nA : ((s.size : Int) - 1).toNat = s.size - 1 := by omega
          have nB : (0 : Int) ≤ (s.size : Int) - 1 := by omega
          have nC : (s.size : Int) - 1 < (s.size : Int) := by omega
          obtain ⟨y, hy⟩ : ∃ y, s.extract 0 (s.size - 1) ++ (⟨#[32, 83, 101, 101, 110, 41]⟩ : ByteArray) = y := ⟨_, rfl⟩
          have hyp : parseL y.data.toList = (p + 1, true) := by
            rw [← hy, cat_list, ext_drop]; exact parse_seen HP.out h0 h2
          have hys : y.size ≤ 100000 := by
            rw [← hy, ByteArray.size_append]; have := ext_size s 0 (s.size - 1); show _ + 6 ≤ _; omega
          have HY := Lib.hid hy; have HYP := Lib.hid hyp
          clear hy hyp HP
          go_wp2_with fail
          rw [HY.out]
          refine (implP y (by omega) _ (HN.out.below b3) HYP.out).mono ?_
          rintro e w5 ⟨rfl, b5⟩
          replace b5 := b3.trans (b5.mono b3.size)
          clear HYP HY b3
          go_wp2_with fail
          go_ret
          exact ⟨by simp, b5⟩
        · have e2 : ((p : Int) % 2 == 1) = true := beq_iff_eq.2 (by omega)
          go_wp2_with fail
          go_ret
          exact ⟨by simp, b3⟩
set_option maxRecDepth 100000 in
set_option maxHeartbeats 1000000 in
theorem fnFlagsTwice.walk (a : Option Addr) (len cap : Nat) (hl : len ≤ cap) (hm : cap ≤ maxLen) (w : World) (hN : Names w) (hc : CodeAt w a len) :
    Calls Tryd.prog 5 #[.slice a len cap] w fun e w' => e = .returned (.bool true) ∧ Below w.heap.size w w' := by
  unfold maxLen at hm
  have HN := Lib.hid hN
  clear hN
  by_cases h1 : 1048576 < len
  · go_enter Tryd.func5, Tryd.ntmps5
    go_wp2_with fail
    go_ret
    exact ⟨rfl, Below.refl _ _⟩
  · go_enter Tryd.func5, Tryd.ntmps5
    go_wp2_with fail
    refine (DrawFlagsParse_any a len cap hl w hc).mono ?_
    clear hc
    rintro e w1 ⟨s, rfl, hz, b1⟩
    obtain ⟨p, q, hp⟩ := parse_two s
    have HP := Lib.hid hp; clear hp
    go_wp2_with fail
    refine (implP s (by omega) _ (HN.out.below b1) HP.out).mono ?_
    rintro e w2 ⟨rfl, b2⟩
    replace b2 := b1.trans (b2.mono b1.size)
    go_wp2_with fail
    refine (specP s (by omega) _ HP.out).mono ?_
    rintro e w3 ⟨rfl, b3⟩
    replace b3 := b2.trans (b3.mono b2.size)
    clear b1 b2
    rcases q with _ | _
    · go_wp2_with fail
      go_ret
      exact ⟨by simp, b3⟩
    · by_cases h0 : p = 0
      · subst h0
        go_wp2_with fail
        go_ret
        exact ⟨by simp, b3⟩
      · have e0 : ((p : Int) == 0) = false := beq_eq_false_iff_ne.2 (by omega)
        have hs2 := parse_size HP.out
        have nA : ((s.size : Int) - 1).toNat = s.size - 1 := by omega
        have nB : (0 : Int) ≤ (s.size : Int) - 1 := by omega
        have nC : (s.size : Int) - 1 < (s.size : Int) := by omega
        have nD : (1 : Int) ≤ (s.size : Int) := by omega
        obtain ⟨y, hy⟩ : ∃ y, s.extract 0 (s.size - 1) ++ (⟨#[32]⟩ : ByteArray) ++ s.extract 1 s.size = y := ⟨_, rfl⟩
        have hyp : (parseL y.data.toList).2 = false := by
          rw [← hy, cat_list, cat_list, ext_drop, ext_tail]; exact parse_twice HP.out h0
        obtain ⟨p2, q2, hp2⟩ := parse_two y
        rw [hp2] at hyp
        have hyp : q2 = false := hyp
        subst hyp
        have hys : y.size ≤ 100000 := by
          rw [← hy, ByteArray.size_append, ByteArray.size_append]; have := ext_size s 0 (s.size - 1); have := ext_size s 1 s.size; have : (⟨#[32]⟩ : ByteArray).size = 1 := rfl; omega
        have HY := Lib.hid hy; have HYP := Lib.hid hp2
        clear hy hp2 HP
        have nW : IntKind.i64.wrap ((s.size : Int) - 1) = (s.size : Int) - 1 := IntWalk.i64_in _ (by omega)
        go_upto_region 8 with fail
        go_region_with (go_at_call 9; rw [HY.out]; refine (implP y (by omega) _ (HN.out.below (by go_grown)) HYP.out).mono ?_; rintro e w5 ⟨rfl, b5⟩)
        all_goals
          clear HYP HY
          go_wp2_with fail
          go_ret
          exact ⟨by simp, (show Below w.heap.size w w3.drew from ⟨b3.os, b3.tape, b3.output, b3.size, b3.block⟩).trans (b5.mono b3.size)⟩
end Go.Proofs.YtbmpbkidjcaogaaDoor
