/- WALKS: a prefix and a suffix of one byte are cut away; the flag of a name. -/
import Derived.Test.YtbmpbkidjcaogaaDoorParse
import Derived.Test.YtbmpbkidjcaogaaDoorDoor
namespace Go.Proofs.YtbmpbkidjcaogaaDoor
open Go.RowKit
set_option linter.unusedVariables false

theorem ext_list (s : ByteArray) (a b : Nat) : (s.extract a b).toList = (s.data.toList.drop a).take (b - a) := by
  rw [ByteArray.toList_eq, ByteArray.data_extract, Array.toList_extract, List.extract_eq_take_drop]
theorem size_list (s : ByteArray) : s.size = s.data.toList.length := by simp
theorem head_is (l : List UInt8) (c : UInt8) (h : 1 ≤ l.length) : ((l.drop 0).take (1 - 0) == [c]) = (l.head? == some c) := by
  cases l with
  | nil => simp at h
  | cons a r => rw [Bool.eq_iff_iff]; simp
theorem last_is (l : List UInt8) (c : UInt8) (h : 1 ≤ l.length) : ((l.drop (l.length - 1)).take (l.length - (l.length - 1)) == [c]) = (l.getLast? == some c) := by
  obtain ⟨r, x, rfl⟩ : ∃ r x, l = r ++ [x] := ⟨l.dropLast, l.getLast (by intro e; subst e; simp at h), (List.dropLast_concat_getLast _).symm⟩
  rw [List.length_append, List.length_singleton, Nat.add_sub_cancel, List.drop_left, Nat.add_sub_cancel_left, List.getLast?_concat, Bool.eq_iff_iff]
  simp
/-- What is left behind a prefix, ahead of a suffix. -/
def CutP (s t : ByteArray) (d : Bool) : Prop := StrIs t (if d then s.data.toList.drop 1 else s.data.toList)
def CutS (s t : ByteArray) (d : Bool) : Prop := StrIs t (if d then s.data.toList.dropLast else s.data.toList)
theorem hasPrefix_one (s : ByteArray) (c : UInt8) (d : Bool) (w : World) (hs : s.size ≤ 1000000000) (hd : (s.data.toList.head? == some c) = d) :
    Calls Tryd.prog 35 #[.string s, .string ⟨#[c]⟩] w fun e w' => e = .returned (.bool d) ∧ w' = w := by
  by_cases h0 : s.size = 0
  · have hr : d = false := by rw [← hd]; have : s.data.toList = [] := List.eq_nil_of_length_eq_zero (by rw [← size_list]; exact h0); rw [this]; rfl
    subst hr
    clear hd
    go_enter Tryd.func35, Tryd.ntmps35
    go_wp2_with fail
    go_ret
    exact ⟨rfl, rfl⟩
  · have hx : ((s.extract 0 1).toList == [c]) = d := by rw [ext_list, head_is _ _ (by rw [← size_list]; omega), hd]
    have n1 : (1 : Int) ≤ (s.size : Int) := by omega
    clear hd
    go_enter Tryd.func35, Tryd.ntmps35
    go_wp2_with fail
    go_ret
    exact ⟨by first | rfl | exact ret_bool hx, rfl⟩
theorem hasSuffix_one (s : ByteArray) (c : UInt8) (d : Bool) (w : World) (hs : s.size ≤ 1000000000) (hd : (s.data.toList.getLast? == some c) = d) :
    Calls Tryd.prog 36 #[.string s, .string ⟨#[c]⟩] w fun e w' => e = .returned (.bool d) ∧ w' = w := by
  by_cases h0 : s.size = 0
  · have hr : d = false := by rw [← hd]; have : s.data.toList = [] := List.eq_nil_of_length_eq_zero (by rw [← size_list]; exact h0); rw [this]; rfl
    subst hr
    clear hd
    go_enter Tryd.func36, Tryd.ntmps36
    go_wp2_with fail
    go_ret
    exact ⟨rfl, rfl⟩
  · have hx : ((s.extract (s.size - 1) s.size).toList == [c]) = d := by
      rw [ext_list, ← hd]
      have := last_is s.data.toList c (by rw [← size_list]; omega)
      rwa [← size_list] at this
    have n1 : (1 : Int) ≤ (s.size : Int) := by omega
    clear hd
    go_enter Tryd.func36, Tryd.ntmps36
    go_wp2_with fail
    go_ret
    exact ⟨by first | rfl | exact ret_bool hx, rfl⟩
theorem liteCutPrefix_one (s : ByteArray) (c : UInt8) (d : Bool) (w : World) (hs : s.size ≤ 1000000000) (hd : (s.data.toList.head? == some c) = d) :
    Calls Tryd.prog 28 #[.string s, .string ⟨#[c]⟩] w fun e w' => (∃ t, e = .returned (.tuple #[.string t, .bool d]) ∧ CutP s t d) ∧ w' = w := by
  have hp := hasPrefix_one s c d w hs hd
  have HP := Lib.hid hp
  have n1 : d = true → 1 ≤ s.size := by
    intro e; subst e
    rw [size_list]
    cases hl : s.data.toList with
    | nil => rw [hl] at hd; cases hd
    | cons a r => simp
  have N1 := Lib.hid n1
  clear hp hd n1
  rcases d with _ | _
  · go_enter Tryd.func28, Tryd.ntmps28
    go_wp2_with fail
    refine HP.out.mono ?_
    rintro e w' ⟨rfl, rfl⟩
    go_wp2_with fail
    go_ret2
    exact ⟨⟨s, rfl, rfl⟩, rfl⟩
  · have n2 := N1.out rfl
    have n3 : (1 : Int) ≤ (s.size : Int) := by omega
    go_enter Tryd.func28, Tryd.ntmps28
    go_wp2_with fail
    refine HP.out.mono ?_
    rintro e w' ⟨rfl, rfl⟩
    go_wp2_with fail
    go_ret2
    refine ⟨⟨s.extract 1 s.size, rfl, ?_⟩, rfl⟩
    show (s.extract 1 s.size).data.toList = s.data.toList.drop 1
    rw [← ByteArray.toList_eq, ext_list, List.take_of_length_le (by rw [List.length_drop, ← size_list]; omega)]
theorem liteCutSuffix_one (s : ByteArray) (c : UInt8) (d : Bool) (w : World) (hs : s.size ≤ 1000000000) (hd : (s.data.toList.getLast? == some c) = d) :
    Calls Tryd.prog 29 #[.string s, .string ⟨#[c]⟩] w fun e w' => (∃ t, e = .returned (.tuple #[.string t, .bool d]) ∧ CutS s t d) ∧ w' = w := by
  have hp := hasSuffix_one s c d w hs hd
  have HP := Lib.hid hp
  have n1 : d = true → 1 ≤ s.size := by
    intro e; subst e
    rw [size_list]
    cases hl : s.data.toList with
    | nil => rw [hl] at hd; cases hd
    | cons a r => simp
  have N1 := Lib.hid n1
  clear hp hd n1
  rcases d with _ | _
  · go_enter Tryd.func29, Tryd.ntmps29
    go_wp2_with fail
    refine HP.out.mono ?_
    rintro e w' ⟨rfl, rfl⟩
    go_wp2_with fail
    go_ret2
    exact ⟨⟨s, rfl, rfl⟩, rfl⟩
  · have n2 := N1.out rfl
    have n3 : (1 : Int) ≤ (s.size : Int) := by omega
    have n4 : ((s.size : Int) - 1).toNat = s.size - 1 := by omega
    go_enter Tryd.func29, Tryd.ntmps29
    go_wp2_with fail
    refine HP.out.mono ?_
    rintro e w' ⟨rfl, rfl⟩
    go_wp2_with fail
    go_ret2
    refine ⟨⟨s.extract 0 (s.size - 1), rfl, ?_⟩, rfl⟩
    show (s.extract 0 (s.size - 1)).data.toList = s.data.toList.dropLast
    rw [← ByteArray.toList_eq, ext_list, List.dropLast_eq_take, ← size_list]; rfl
theorem cutPrefix_one (s : ByteArray) (c : UInt8) (d : Bool) (w : World) (hs : s.size ≤ 1000000000) (hd : (s.data.toList.head? == some c) = d) :
    Calls Tryd.prog 17 #[.string s, .string ⟨#[c]⟩] w fun e w' => (∃ t, e = .returned (.tuple #[.string t, .bool d]) ∧ CutP s t d) ∧ w' = w := by
  have hp := liteCutPrefix_one s c d w hs hd
  have HP := Lib.hid hp
  clear hp hd
  go_enter Tryd.func17, Tryd.ntmps17
  go_wp2_with fail
  refine HP.out.mono ?_
  rintro e w' ⟨⟨t, rfl, ht⟩, rfl⟩
  have HT := Lib.hid ht
  clear ht HP
  go_wp2_with fail
  go_ret2
  exact ⟨⟨t, rfl, HT.out⟩, rfl⟩
theorem cutSuffix_one (s : ByteArray) (c : UInt8) (d : Bool) (w : World) (hs : s.size ≤ 1000000000) (hd : (s.data.toList.getLast? == some c) = d) :
    Calls Tryd.prog 18 #[.string s, .string ⟨#[c]⟩] w fun e w' => (∃ t, e = .returned (.tuple #[.string t, .bool d]) ∧ CutS s t d) ∧ w' = w := by
  have hp := liteCutSuffix_one s c d w hs hd
  have HP := Lib.hid hp
  clear hp hd
  go_enter Tryd.func18, Tryd.ntmps18
  go_wp2_with fail
  refine HP.out.mono ?_
  rintro e w' ⟨⟨t, rfl, ht⟩, rfl⟩
  have HT := Lib.hid ht
  clear ht HP
  go_wp2_with fail
  go_ret2
  exact ⟨⟨t, rfl, HT.out⟩, rfl⟩
theorem flagL_at {l : List UInt8} {k : Nat} (hk : k < 5) (h : l = nm k) : flagL l = 2 ^ k := by rw [h]; exact flagL_nm hk
theorem flagL_no {l : List UInt8} (h : ∀ k, k < 5 → l ≠ nm k) : flagL l = 0 := by
  rcases flagL_cases l with ⟨h0, _⟩ | ⟨k, hk, hl, _⟩
  · exact h0
  · exact absurd hl (h k hk)
set_option maxHeartbeats 400000 in
theorem flagOf_any (s : ByteArray) (w : World) (hN : Names w) :
    Calls Tryd.prog 20 #[.string s] w fun e w' => e = .returned (.int .i64 (flagL s.data.toList : Nat)) ∧ w' = w := by
  obtain ⟨t, fz, hg⟩ := hN
  go_enter Tryd.func20, Tryd.ntmps20
  go_wp2_with (refine wpList_load_row rfl 45 _ rfl 0 rfl t namesCells fz _ hg Tryd.underlying45 rfl (by kernel_rfl) ?_)
  clear hg
  go_loop [6] (fun i => ∃ n : Nat, n ≤ 5 ∧ i = .int .i64 n ∧ Hid (∀ j, j < n → s.data.toList ≠ nm j)) (fun i => 5 - (intOf i).toNat)
  case atStart => exact ⟨0, by omega, rfl, fun j hj => absurd hj (Nat.not_lt_zero j)⟩
  case round =>
    obtain ⟨n, hn, rfl, HX⟩ := hrel
    by_cases hlt : n < 5
    · have hn5 : n = 0 ∨ n = 1 ∨ n = 2 ∨ n = 3 ∨ n = 4 := by omega
      rcases hn5 with rfl | rfl | rfl | rfl | rfl
      ·
        have hx := nameAt0
        by_cases hf : s.data.toList = nm 0
        · have hr := flagL_at (k := 0) (by omega) hf
          have hb : ((nmB 0).toList == s.toList) = true := by rw [ByteArray.toList_eq s, hf, ByteArray.toList_eq]; decide
          have HR := Lib.hid hr
          clear hr hf
          go_wp2_with fail
          go_ret
          exact ⟨by rw [HR.out]; rfl, rfl⟩
        · have hb : ((nmB 0).toList == s.toList) = false := by
            rw [ByteArray.toList_eq s, ByteArray.toList_eq]
            exact beq_eq_false_iff_ne.2 (fun e => hf (by rw [← e]; decide))
          have HY : Hid (∀ j, j < 0 + 1 → s.data.toList ≠ nm j) := fun j hj => by
            rcases Nat.lt_or_ge j 0 with h | h
            · exact HX.out j h
            · obtain rfl : j = 0 := by omega
              exact hf
          clear hf
          go_wp2_with fail
          go_round
          case rel => exact ⟨0 + 1, by omega, rfl, HY.out⟩
          case measure => simp [intOf]
      ·
        have hx := nameAt1
        by_cases hf : s.data.toList = nm 1
        · have hr := flagL_at (k := 1) (by omega) hf
          have hb : ((nmB 1).toList == s.toList) = true := by rw [ByteArray.toList_eq s, hf, ByteArray.toList_eq]; decide
          have HR := Lib.hid hr
          clear hr hf
          go_wp2_with fail
          go_ret
          exact ⟨by rw [HR.out]; rfl, rfl⟩
        · have hb : ((nmB 1).toList == s.toList) = false := by
            rw [ByteArray.toList_eq s, ByteArray.toList_eq]
            exact beq_eq_false_iff_ne.2 (fun e => hf (by rw [← e]; decide))
          have HY : Hid (∀ j, j < 1 + 1 → s.data.toList ≠ nm j) := fun j hj => by
            rcases Nat.lt_or_ge j 1 with h | h
            · exact HX.out j h
            · obtain rfl : j = 1 := by omega
              exact hf
          clear hf
          go_wp2_with fail
          go_round
          case rel => exact ⟨1 + 1, by omega, rfl, HY.out⟩
          case measure => simp [intOf]
      ·
        have hx := nameAt2
        by_cases hf : s.data.toList = nm 2
        · have hr := flagL_at (k := 2) (by omega) hf
          have hb : ((nmB 2).toList == s.toList) = true := by rw [ByteArray.toList_eq s, hf, ByteArray.toList_eq]; decide
          have HR := Lib.hid hr
          clear hr hf
          go_wp2_with fail
          go_ret
          exact ⟨by rw [HR.out]; rfl, rfl⟩
        · have hb : ((nmB 2).toList == s.toList) = false := by
            rw [ByteArray.toList_eq s, ByteArray.toList_eq]
            exact beq_eq_false_iff_ne.2 (fun e => hf (by rw [← e]; decide))
          have HY : Hid (∀ j, j < 2 + 1 → s.data.toList ≠ nm j) := fun j hj => by
            rcases Nat.lt_or_ge j 2 with h | h
            · exact HX.out j h
            · obtain rfl : j = 2 := by omega
              exact hf
          clear hf
          go_wp2_with fail
          go_round
          case rel => exact ⟨2 + 1, by omega, rfl, HY.out⟩
          case measure => simp [intOf]
      ·
        have hx := nameAt3
        by_cases hf : s.data.toList = nm 3
        · have hr := flagL_at (k := 3) (by omega) hf
          have hb : ((nmB 3).toList == s.toList) = true := by rw [ByteArray.toList_eq s, hf, ByteArray.toList_eq]; decide
          have HR := Lib.hid hr
          clear hr hf
          go_wp2_with fail
          go_ret
          exact ⟨by rw [HR.out]; rfl, rfl⟩
        · have hb : ((nmB 3).toList == s.toList) = false := by
            rw [ByteArray.toList_eq s, ByteArray.toList_eq]
            exact beq_eq_false_iff_ne.2 (fun e => hf (by rw [← e]; decide))
          have HY : Hid (∀ j, j < 3 + 1 → s.data.toList ≠ nm j) := fun j hj => by
            rcases Nat.lt_or_ge j 3 with h | h
            · exact HX.out j h
            · obtain rfl : j = 3 := by omega
              exact hf
          clear hf
          go_wp2_with fail
          go_round
          case rel => exact ⟨3 + 1, by omega, rfl, HY.out⟩
          case measure => simp [intOf]
      ·
        have hx := nameAt4
        by_cases hf : s.data.toList = nm 4
        · have hr := flagL_at (k := 4) (by omega) hf
          have hb : ((nmB 4).toList == s.toList) = true := by rw [ByteArray.toList_eq s, hf, ByteArray.toList_eq]; decide
          have HR := Lib.hid hr
          clear hr hf
          go_wp2_with fail
          go_ret
          exact ⟨by rw [HR.out]; rfl, rfl⟩
        · have hb : ((nmB 4).toList == s.toList) = false := by
            rw [ByteArray.toList_eq s, ByteArray.toList_eq]
            exact beq_eq_false_iff_ne.2 (fun e => hf (by rw [← e]; decide))
          have HY : Hid (∀ j, j < 4 + 1 → s.data.toList ≠ nm j) := fun j hj => by
            rcases Nat.lt_or_ge j 4 with h | h
            · exact HX.out j h
            · obtain rfl : j = 4 := by omega
              exact hf
          clear hf
          go_wp2_with fail
          go_round
          case rel => exact ⟨4 + 1, by omega, rfl, HY.out⟩
          case measure => simp [intOf]
    · obtain rfl : n = 5 := by omega
      have hr := flagL_no HX.out
      have HR := Lib.hid hr
      clear hr
      go_wp2_with fail
      go_ret
      exact ⟨by rw [HR.out]; rfl, rfl⟩
end Go.Proofs.YtbmpbkidjcaogaaDoor
