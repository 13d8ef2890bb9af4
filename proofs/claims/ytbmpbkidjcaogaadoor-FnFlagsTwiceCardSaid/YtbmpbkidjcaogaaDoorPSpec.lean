/- WALKS: the reference reads a text of flags. -/
import Derived.Test.YtbmpbkidjcaogaaDoorPImpl
import Derived.Deep.AppendLies
import Derived.Deep.LoopGhost
import Derived.Deep.QuietTactic
import Derived.BigQuiet
namespace Go.Proofs.YtbmpbkidjcaogaaDoor
open Go.RowKit
set_option linter.unusedVariables false

theorem str_cell (w : World) (x : ByteArray) : ∀ j u, [Value.string x][j]? = some u → (w.alloc (.cells #[.string x] 9)).cell? ((⟨w.heap.size, 0, none⟩ : Addr).add j) = some u := cell_one_new _ _ _
/-- The words so far; from here on no blank. -/
structure Cut (s : ByteArray) (strs : List ByteArray) (p i : Nat) : Prop where
  eq : wordsL s.data.toList = lists strs ++ wordsL (s.data.toList.drop p)
  no : ∀ j c, p ≤ j → j < i → s.data.toList[j]? = some c → c ≠ 32
theorem Cut.next {s : ByteArray} {strs : List ByteArray} {p i : Nat} {c : UInt8} (h : Cut s strs p i) (hc : s.data.toList[i]? = some c) (hn : c ≠ 32) : Cut s strs p (i + 1) :=
  ⟨h.eq, fun j d h1 h2 hd => by
    rcases Nat.lt_or_ge j i with hj | hj
    · exact h.no j d h1 hj hd
    · obtain rfl : j = i := by omega
      rw [hc] at hd; cases hd; exact hn⟩
theorem Cut.seg {s : ByteArray} {strs : List ByteArray} {p i : Nat} (h : Cut s strs p i) : ∀ c ∈ (s.data.toList.drop p).take (i - p), c ≠ 32 := by
  intro c hc
  obtain ⟨j, hj⟩ := List.mem_iff_getElem?.1 hc
  have hl := (List.getElem?_eq_some_iff.1 hj).1
  rw [List.length_take] at hl
  rw [List.getElem?_take_of_lt (by omega), List.getElem?_drop] at hj
  exact h.no (p + j) c (by omega) (by omega) hj
theorem Cut.word {s : ByteArray} {strs : List ByteArray} {p i : Nat} (h : Cut s strs p i) (hp : p ≤ i) (hc : s.data.toList[i]? = some 32) : Cut s (strs ++ [s.extract p i]) (i + 1) (i + 1) := by
  refine ⟨?_, fun j c h1 h2 => by omega⟩
  obtain ⟨hlt, he⟩ := List.getElem?_eq_some_iff.1 hc
  have hx : (s.extract p i).data.toList = (s.data.toList.drop p).take (i - p) := by rw [← ByteArray.toList_eq, ext_list]
  have hd : s.data.toList.drop p = (s.data.toList.drop p).take (i - p) ++ 32 :: s.data.toList.drop (i + 1) := by
    conv => lhs; rw [← List.take_append_drop (i - p) (s.data.toList.drop p)]
    rw [List.drop_drop, show p + (i - p) = i from by omega, List.drop_eq_getElem_cons hlt, he]
  rw [h.eq, hd, wordsL_cut _ _ h.seg, lists_snoc, hx, List.append_assoc]
  rfl
theorem Cut.last {s : ByteArray} {strs : List ByteArray} {p : Nat} (h : Cut s strs p s.size) : wordsL s.data.toList = lists (strs ++ [s.extract p s.size]) := by
  have hx : (s.extract p s.size).data.toList = s.data.toList.drop p := by rw [← ByteArray.toList_eq, ext_list, List.take_of_length_le (by rw [List.length_drop, ← size_list]; omega)]
  have hs := h.seg
  rw [List.take_of_length_le (by rw [List.length_drop, ← size_list]; omega)] at hs
  rw [h.eq, wordsL_none _ hs, lists_snoc, hx]
set_option maxRecDepth 100000 in
set_option maxHeartbeats 1000000 in
theorem l1Cut_any (s : ByteArray) (hs : s.size ≤ 10000000) (w : World) :
    Calls Tryd.prog 14 #[.string s, .int .u8 32] w fun e w' => ∃ (g n cap : Nat) (strs : List ByteArray), e = .returned (.slice (some ⟨g, 0, none⟩) n cap) ∧ w'.ownsRow w.heap.size 9 1 (.slice (some ⟨g, 0, none⟩) n cap) n (strs.map Value.string) ∧ (strs.length = n ∧ n ≤ s.size + 1) ∧ lists strs = wordsL s.data.toList ∧ Below w.heap.size w w' := by
  obtain ⟨i0, hi, hz0, hz1, hz2⟩ := info_parts Tryd.infoStr
  obtain ⟨w1, hw1⟩ : ∃ w1, w1 = w.alloc (.cells #[] 9) := ⟨_, rfl⟩
  have bel : Below w.heap.size w w1 := by rw [hw1]; exact (Below.refl _ _).alloc (Nat.le_refl _) _
  have ho : w1.ownsRow w.heap.size 9 1 (.slice (some ⟨w.heap.size, 0, none⟩) 0 0) 0 (([] : List ByteArray).map Value.string) := by
    rw [hw1]
    exact World.ownsRow_made (base := w.heap.size) (e := 9) (size := 1) w #[] 0 (Nat.le_refl _) (by unfold maxLen; omega) rfl
  have hcut : Cut s [] 0 0 := ⟨by simp [lists], fun j c h1 h2 => by omega⟩
  have HW := Lib.hid hw1; have HO := Lib.hid ho; have HC := Lib.hid hcut
  clear hw1 ho hcut
  go_enter Tryd.func14, Tryd.ntmps14
  go_wp2_with fail
  rw [← HW.out]
  go_loopg [5, 6, 7] s.size (fun gk out fr i wr => ∃ (n p k cp g : Nat) (strs : List ByteArray), n + gk = s.size ∧ p ≤ n ∧ k ≤ n ∧ out = .slice (some ⟨g, 0, none⟩) k cp ∧ fr = .int .i64 p ∧ i = .int .i64 n ∧ Hid (Cut s strs p n) ∧ Hid (wr.ownsRow w.heap.size 9 1 (.slice (some ⟨g, 0, none⟩) k cp) k (strs.map Value.string)) ∧ Below w.heap.size w wr)
  case atStart => exact ⟨0, 0, 0, 0, _, [], by omega, by omega, by omega, rfl, rfl, rfl, HC.out, HO.out, bel⟩
  case round =>
    clear HO HC bel HW
    obtain ⟨n, p, k, cp, g, strs, hn, hpn, hkn, rfl, rfl, rfl, HC, HO, hq⟩ := hrel
    by_cases hlt : n < s.size
    · have hlt' : n < s.data.toList.length := by rw [← size_list]; exact hlt
      have hc := List.getElem?_eq_getElem hlt'
      have he : s.data.toList[n] = s[n] := rfl
      rw [he] at hc
      have hnI : (n : Int) < (s.size : Int) := by omega
      have hpI : (p : Int) ≤ (n : Int) := by omega
      by_cases h32 : s[n] = 32
      · have hb : ((s[n].toNat : Int) == 32) = true := by rw [h32]; rfl
        rw [h32] at hc
        have hcut := HC.out.word hpn hc
        have HCN := Lib.hid hcut
        have hown : (wr.alloc (.cells #[.string (s.extract p n)] 9)).ownsRow w.heap.size 9 1 (.slice (some ⟨g, 0, none⟩) k cp) k (strs.map Value.string) := HO.out.alloc _
        have HOW := Lib.hid hown
        clear hc he hcut hown h32
        go_wp2_with (at_builtin; refine wpList_append_lies _ rfl _ _ _ rfl w.heap.size 9 i0 (.string ⟨#[]⟩) 1 16 Tryd.underlying30 hi hz0 hz1 hz2 rfl (by omega) _ k _ rfl HOW.out ⟨wr.heap.size, 0, none⟩ 1 1 [.string (s.extract p n)] rfl rfl (cell_one_new _ _ _) (by simp [Value.oneCell']) (by omega) (by unfold maxLen; omega) (by omega) (by have := hq.size; simp; omega) (wr.heap.size + 1) (by simp) ?_)
        intro g2 cp2 w4 hown4 hgrow hat hlt4
        have q4 : Below w.heap.size w w4 := (hq.alloc hq.size _).grown hgrow (by have := hq.size; simp; omega) (fun k hk => (HOW.out.lt k hk).1)
        have r4 : w4.ownsRow w.heap.size 9 1 (.slice (some ⟨g2, 0, none⟩) (k + 1) cp2) (k + 1) ((strs ++ [s.extract p n]).map Value.string) := by rw [List.map_append]; exact hown4
        have R4 := Lib.hid r4
        clear hown4 hgrow hat r4 HOW
        go_wp2_with fail
        go_roundg (gk - 1)
        case measure => omega
        case rel => exact ⟨n + 1, n + 1, k + 1, cp2, g2, _, by omega, by omega, by omega, rfl, by go_num, by go_num, HCN.out, R4.out, q4⟩
      · have hb : ((s[n].toNat : Int) == 32) = false := beq_eq_false_iff_ne.2 (fun e => h32 (UInt8.toNat_inj.1 (by show _ = 32; omega)))
        have hcut := HC.out.next hc h32
        have HCN := Lib.hid hcut
        clear hc he hcut h32
        go_wp2_with fail
        go_roundg (gk - 1)
        case measure => omega
        case rel => exact ⟨n + 1, p, k, cp, g, strs, by omega, by omega, by omega, rfl, rfl, by go_num, HCN.out, HO.out, hq⟩
    · obtain rfl : n = s.size := by omega
      have hlast := HC.out.last
      have HLS := Lib.hid hlast
      have hpI : (p : Int) ≤ (s.size : Int) := by omega
      have hown : (wr.alloc (.cells #[.string (s.extract p s.size)] 9)).ownsRow w.heap.size 9 1 (.slice (some ⟨g, 0, none⟩) k cp) k (strs.map Value.string) := HO.out.alloc _
      have HOW := Lib.hid hown
      clear hlast hown
      go_wp2_with (at_builtin; refine wpList_append_lies _ rfl _ _ _ rfl w.heap.size 9 i0 (.string ⟨#[]⟩) 1 16 Tryd.underlying30 hi hz0 hz1 hz2 rfl (by omega) _ k _ rfl HOW.out ⟨wr.heap.size, 0, none⟩ 1 1 [.string (s.extract p s.size)] rfl rfl (cell_one_new _ _ _) (by simp [Value.oneCell']) (by omega) (by unfold maxLen; omega) (by omega) (by have := hq.size; simp; omega) (wr.heap.size + 1) (by simp) ?_)
      intro g2 cp2 w4 hown4 hgrow hat hlt4
      have q4 : Below w.heap.size w w4 := (hq.alloc hq.size _).grown hgrow (by have := hq.size; simp; omega) (fun k hk => (HOW.out.lt k hk).1)
      have r4 : w4.ownsRow w.heap.size 9 1 (.slice (some ⟨g2, 0, none⟩) (k + 1) cp2) (k + 1) ((strs ++ [s.extract p s.size]).map Value.string) := by rw [List.map_append]; exact hown4
      have R4 := Lib.hid r4
      have hlen : (strs ++ [s.extract p s.size]).length = k + 1 := by have := r4.1; simpa using this
      have HLEN := Lib.hid hlen
      clear hown4 hgrow hat r4 HOW hlen
      go_wp2_with fail
      go_ret
      exact ⟨g2, k + 1, cp2, _, rfl, R4.out, ⟨HLEN.out, by omega⟩, HLS.out.symm, q4⟩
end Go.Proofs.YtbmpbkidjcaogaaDoor
