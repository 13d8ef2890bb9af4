/- WALKS: the table of flags' names; the word of a flag in the program. -/
import Derived.Test.YtgcdopmidmelfaaDoorFlags
import Derived.Test.YtgcdopmidmelfaaDoorShelf
import Derived.Below
namespace Go.Proofs.YtgcdopmidmelfaaDoor
open Go.RowKit
set_option linter.unusedVariables false

/-- A string that bears these bytes. -/
def StrIs (s : ByteArray) (l : List UInt8) : Prop := s.data.toList = l
theorem StrIs.size {s : ByteArray} {l : List UInt8} (h : StrIs s l) : s.size = l.length := by
  unfold StrIs at h; rw [← h]; rfl
theorem StrIs.append {s t : ByteArray} {l m : List UInt8} (h : StrIs s l) (k : StrIs t m) : StrIs (s ++ t) (l ++ m) := by
  unfold StrIs at *; rw [ByteArray.data_append, Array.toList_append, h, k]
theorem StrIs.eq {s t : ByteArray} {l : List UInt8} (h : StrIs s l) (k : StrIs t l) : s = t := by
  unfold StrIs at *
  cases s; cases t
  congr
  exact Array.toList_inj.1 (h.trans k.symm)
theorem StrIs.mk (l : List UInt8) : StrIs ⟨l.toArray⟩ l := by
  show l.toArray.toList = l
  simp
theorem StrIs.is {s : ByteArray} {l : List UInt8} (h : StrIs s l) : s = ⟨l.toArray⟩ := h.eq (StrIs.mk l)
theorem StrIs.toList {s : ByteArray} {l : List UInt8} (h : StrIs s l) : s.toList = l := by rw [ByteArray.toList_eq]; exact h

def namesCells : Array Value := #[.string ⟨#[83, 101, 101, 110]⟩, .string ⟨#[65, 110, 115, 119, 101, 114, 101, 100]⟩, .string ⟨#[70, 108, 97, 103, 103, 101, 100]⟩, .string ⟨#[68, 101, 108, 101, 116, 101, 100]⟩, .string ⟨#[68, 114, 97, 102, 116]⟩]
/-- The table of names lies where its initialiser laid it. -/
def Names (w : World) : Prop := ∃ t fz, w.heap[0]? = some (.cells namesCells t fz)
theorem Names.below {w w' : World} (h : Names w) (hb : Below w.heap.size w w') : Names w' := by
  obtain ⟨t, fz, h⟩ := h
  exact ⟨t, fz, (hb.block _ (lt_of_block h)).trans h⟩
def nm : Nat → List UInt8
  | 0 => [83, 101, 101, 110]
  | 1 => [65, 110, 115, 119, 101, 114, 101, 100]
  | 2 => [70, 108, 97, 103, 103, 101, 100]
  | 3 => [68, 101, 108, 101, 116, 101, 100]
  | 4 => [68, 114, 97, 102, 116]
  | _ => []
def nmB (k : Nat) : ByteArray := ⟨(nm k).toArray⟩
theorem nameAt0 (w : World) : (Instr.index 76 (.agg namesCells) (.int .i64 0)).run Tryd.prog w = .ok (.string (nmB 0)) w := by kernel_rfl
theorem nameAt1 (w : World) : (Instr.index 76 (.agg namesCells) (.int .i64 1)).run Tryd.prog w = .ok (.string (nmB 1)) w := by kernel_rfl
theorem nameAt2 (w : World) : (Instr.index 76 (.agg namesCells) (.int .i64 2)).run Tryd.prog w = .ok (.string (nmB 2)) w := by kernel_rfl
theorem nameAt3 (w : World) : (Instr.index 76 (.agg namesCells) (.int .i64 3)).run Tryd.prog w = .ok (.string (nmB 3)) w := by kernel_rfl
theorem nameAt4 (w : World) : (Instr.index 76 (.agg namesCells) (.int .i64 4)).run Tryd.prog w = .ok (.string (nmB 4)) w := by kernel_rfl

/-- The word of one flag, of no other number. -/
def fwordL (f : Int) : List UInt8 :=
  if f = 1 then [115, 101, 101, 110] else if f = 2 then [97, 110, 115, 119, 101, 114, 101, 100] else if f = 4 then [102, 108, 97, 103, 103, 101, 100]
  else if f = 8 then [100, 101, 108, 101, 116, 101, 100] else if f = 16 then [100, 114, 97, 102, 116] else []
def fword (f : Int) : ByteArray := ⟨(fwordL f).toArray⟩
theorem fword_none {f : Int} (h : f ≠ 1 ∧ f ≠ 2 ∧ f ≠ 4 ∧ f ≠ 8 ∧ f ≠ 16) : fword f = ⟨#[]⟩ := by simp [fword, fwordL, h]
theorem low0 : (⟨(Lib.toLowerA (nmB 0).data.toList).toArray⟩ : ByteArray) = fword 1 := by decide +kernel
theorem low1 : (⟨(Lib.toLowerA (nmB 1).data.toList).toArray⟩ : ByteArray) = fword 2 := by decide +kernel
theorem low2 : (⟨(Lib.toLowerA (nmB 2).data.toList).toArray⟩ : ByteArray) = fword 4 := by decide +kernel
theorem low3 : (⟨(Lib.toLowerA (nmB 3).data.toList).toArray⟩ : ByteArray) = fword 8 := by decide +kernel
theorem low4 : (⟨(Lib.toLowerA (nmB 4).data.toList).toArray⟩ : ByteArray) = fword 16 := by decide +kernel
theorem nm_ascii (k j : Nat) (b : UInt8) (h : (nmB k).data.toList[j]? = some b) : b.toNat < 128 := by
  have : ∀ c ∈ nm k, c.toNat < 128 := by unfold nm; split <;> decide
  exact this b (by have := List.mem_of_getElem? h; simpa [nmB] using this)
theorem nm_size (k : Nat) : (nmB k).size ≤ 140737488355328 := by
  have : (nm k).length ≤ 8 := by unfold nm; split <;> decide
  show (nm k).toArray.size ≤ _
  simp; omega
theorem toLower_nm (k : Nat) (w : World) : Calls Tryd.prog 39 #[.string (nmB k)] w fun e w' => e = .returned (.string ⟨(Lib.toLowerA (nmB k).data.toList).toArray⟩) ∧ Below w.heap.size w w' :=
  Tryd.strings_ToLower_ascii (nmB k) w (nm_size k) (nm_ascii k)
set_option maxHeartbeats 400000 in
theorem keyFlagWord_any (f : Int) (w : World) (hN : Names w) :
    Calls Tryd.prog 29 #[.int .i64 f] w fun e w' => e = .returned (.string (fword f)) ∧ Below w.heap.size w w' := by
  obtain ⟨t, fz, hg⟩ := hN
  go_enter Tryd.func29, Tryd.ntmps29
  go_wp2_with (refine wpList_load_row rfl 76 _ rfl 0 rfl t namesCells fz _ hg Tryd.underlying76 rfl (by kernel_rfl) ?_)
  clear hg
  go_loop [6] (fun i => ∃ n : Nat, n ≤ 5 ∧ i = .int .i64 n ∧ Hid (∀ j, j < n → f ≠ ((2 ^ j : Nat) : Int))) (fun i => 5 - (intOf i).toNat)
  case atStart => exact ⟨0, by omega, rfl, fun j hj => absurd hj (Nat.not_lt_zero j)⟩
  case round =>
    obtain ⟨n, hn, rfl, HX⟩ := hrel
    by_cases hlt : n < 5
    · have hn5 : n = 0 ∨ n = 1 ∨ n = 2 ∨ n = 3 ∨ n = 4 := by omega
      rcases hn5 with rfl | rfl | rfl | rfl | rfl
      · have hx := nameAt0
        by_cases hf : f = 1
        · subst hf
          go_wp2_with fail
          refine (toLower_nm 0 w).mono ?_
          rintro e w' ⟨rfl, q⟩
          go_wp2_with fail
          go_ret
          exact ⟨by rw [low0]; rfl, q⟩
        · have hf2 : (f == 1) = false := by simpa using hf
          have HY : Hid (∀ j, j < 0 + 1 → f ≠ ((2 ^ j : Nat) : Int)) := fun j hj => by
            rcases Nat.lt_or_ge j 0 with h | h
            · exact HX.out j h
            · obtain rfl : j = 0 := by omega
              exact hf
          clear hf
          go_wp2_with fail
          go_round
          case rel => exact ⟨0 + 1, by omega, rfl, HY.out⟩
          case measure => simp [intOf]
      · have hx := nameAt1
        by_cases hf : f = 2
        · subst hf
          go_wp2_with fail
          refine (toLower_nm 1 w).mono ?_
          rintro e w' ⟨rfl, q⟩
          go_wp2_with fail
          go_ret
          exact ⟨by rw [low1]; rfl, q⟩
        · have hf2 : (f == 2) = false := by simpa using hf
          have HY : Hid (∀ j, j < 1 + 1 → f ≠ ((2 ^ j : Nat) : Int)) := fun j hj => by
            rcases Nat.lt_or_ge j 1 with h | h
            · exact HX.out j h
            · obtain rfl : j = 1 := by omega
              exact hf
          clear hf
          go_wp2_with fail
          go_round
          case rel => exact ⟨1 + 1, by omega, rfl, HY.out⟩
          case measure => simp [intOf]
      · have hx := nameAt2
        by_cases hf : f = 4
        · subst hf
          go_wp2_with fail
          refine (toLower_nm 2 w).mono ?_
          rintro e w' ⟨rfl, q⟩
          go_wp2_with fail
          go_ret
          exact ⟨by rw [low2]; rfl, q⟩
        · have hf2 : (f == 4) = false := by simpa using hf
          have HY : Hid (∀ j, j < 2 + 1 → f ≠ ((2 ^ j : Nat) : Int)) := fun j hj => by
            rcases Nat.lt_or_ge j 2 with h | h
            · exact HX.out j h
            · obtain rfl : j = 2 := by omega
              exact hf
          clear hf
          go_wp2_with fail
          go_round
          case rel => exact ⟨2 + 1, by omega, rfl, HY.out⟩
          case measure => simp [intOf]
      · have hx := nameAt3
        by_cases hf : f = 8
        · subst hf
          go_wp2_with fail
          refine (toLower_nm 3 w).mono ?_
          rintro e w' ⟨rfl, q⟩
          go_wp2_with fail
          go_ret
          exact ⟨by rw [low3]; rfl, q⟩
        · have hf2 : (f == 8) = false := by simpa using hf
          have HY : Hid (∀ j, j < 3 + 1 → f ≠ ((2 ^ j : Nat) : Int)) := fun j hj => by
            rcases Nat.lt_or_ge j 3 with h | h
            · exact HX.out j h
            · obtain rfl : j = 3 := by omega
              exact hf
          clear hf
          go_wp2_with fail
          go_round
          case rel => exact ⟨3 + 1, by omega, rfl, HY.out⟩
          case measure => simp [intOf]
      · have hx := nameAt4
        by_cases hf : f = 16
        · subst hf
          go_wp2_with fail
          refine (toLower_nm 4 w).mono ?_
          rintro e w' ⟨rfl, q⟩
          go_wp2_with fail
          go_ret
          exact ⟨by rw [low4]; rfl, q⟩
        · have hf2 : (f == 16) = false := by simpa using hf
          have HY : Hid (∀ j, j < 4 + 1 → f ≠ ((2 ^ j : Nat) : Int)) := fun j hj => by
            rcases Nat.lt_or_ge j 4 with h | h
            · exact HX.out j h
            · obtain rfl : j = 4 := by omega
              exact hf
          clear hf
          go_wp2_with fail
          go_round
          case rel => exact ⟨4 + 1, by omega, rfl, HY.out⟩
          case measure => simp [intOf]
    · obtain rfl : n = 5 := by omega
      have hr : fword f = ⟨#[]⟩ := fword_none ⟨HX.out 0 (by omega), HX.out 1 (by omega), HX.out 2 (by omega), HX.out 3 (by omega), HX.out 4 (by omega)⟩
      have HR := Lib.hid hr
      clear hr
      go_wp2_with fail
      go_ret
      exact ⟨by rw [HR.out]; rfl, Below.refl _ _⟩
end Go.Proofs.YtgcdopmidmelfaaDoor
