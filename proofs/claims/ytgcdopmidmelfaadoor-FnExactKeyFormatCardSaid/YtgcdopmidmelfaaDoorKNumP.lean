/- PLAIN LEAN: numbers and sets as texts. -/
import Derived.Test.YtgcdopmidmelfaaDoorKTree
import Derived.Test.YtgcdopmidmelfaaDoorShelf
import Derived.Deep.RegionWith
import Derived.Deep.Cut
import Derived.IntWalk
import Derived.Laws.BytesArg
namespace Go.Proofs.YtgcdopmidmelfaaDoor
open Go.RowKit
set_option linter.unusedVariables false

theorem strApp {s t : ByteArray} {l m : List UInt8} (h : StrIs s l) (k : StrIs t m) : StrIs (s ++ t) (l ++ m) := by
  unfold StrIs at *; rw [ByteArray.data_append, Array.toList_append, h, k]
theorem strSize {s : ByteArray} {l : List UInt8} (h : StrIs s l) : s.size = l.length := by unfold StrIs at h; rw [← h]; rfl
theorem strEq {s t : ByteArray} {l : List UInt8} (h : StrIs s l) (k : StrIs t l) : s = t := by
  unfold StrIs at *
  cases s; cases t
  congr
  exact Array.ext' (h.trans k.symm)
theorem strMk (l : List UInt8) : StrIs ⟨l.toArray⟩ l := by show l.toArray.toList = l; simp
def numT (n : Int) : List UInt8 := if n = 0 then [42] else Lib.decDigits n.toNat
theorem dec_one {n : Nat} (h : n < 10) : Lib.decDigits n = [UInt8.ofNat (48 + n)] := by rw [Lib.decDigits, dif_pos h]
theorem dec_two {n : Nat} (h : 10 ≤ n) : Lib.decDigits n = Lib.decDigits (n / 10) ++ [UInt8.ofNat (48 + n % 10)] := by rw [Lib.decDigits, dif_neg (by omega)]
theorem dec_len {n : Nat} (h : n < 100) : (Lib.decDigits n).length ≤ 2 := by
  by_cases h1 : n < 10
  · rw [dec_one h1]; simp
  · rw [dec_two (by omega), dec_one (by omega)]; simp
theorem numT_len {n : Int} (h : n ≤ 99) : (numT n).length ≤ 2 := by
  unfold numT; split
  · simp
  · exact dec_len (by omega)
def spanT (s : Int × Int) : List UInt8 := numT s.1 ++ (if s.2 = s.1 then [] else 58 :: numT s.2)
theorem spanT_len {s : Int × Int} (h : spanOk s = true) : (spanT s).length ≤ 5 := by
  simp [spanOk] at h
  unfold spanT
  have h1 := numT_len (n := s.1) (by omega)
  have h2 := numT_len (n := s.2) (by omega)
  rw [List.length_append]
  split
  · simp; omega
  · simp; omega
/-- The first so many spans as a text. -/
def setTo (l : List (Int × Int)) : Nat → List UInt8
  | 0 => []
  | k + 1 => match l[k]? with
    | none => setTo l k
    | some s => setTo l k ++ (if k = 0 then [] else [44]) ++ spanT s
def setT (l : List (Int × Int)) : List UInt8 := setTo l l.length
theorem setTo_len {l : List (Int × Int)} (h : l.all spanOk = true) : ∀ k, (setTo l k).length ≤ 6 * k
  | 0 => by simp [setTo]
  | k + 1 => by
    have ih := setTo_len h k
    rw [setTo]
    rcases hx : l[k]? with _ | s
    · simp only; omega
    · simp only [List.length_append]
      have := spanT_len (List.all_eq_true.1 h s (List.mem_iff_getElem?.2 ⟨k, hx⟩))
      split <;> simp <;> omega
theorem setTo_one {l : List (Int × Int)} {k : Nat} {s : Int × Int} (h : l[k]? = some s) : setTo l (k + 1) = setTo l k ++ (if k = 0 then [] else [44]) ++ spanT s := by rw [setTo, h]

end Go.Proofs.YtgcdopmidmelfaaDoor
