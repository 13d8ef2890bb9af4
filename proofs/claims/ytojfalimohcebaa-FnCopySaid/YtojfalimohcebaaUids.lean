/- WALKS: whether a list has a number; which messages have numbers of a list. -/
import Derived.Test.YtojfalimohcebaaSame
import Derived.Test.YtojfalimohcebaaBox
import Derived.Test.YtojfalimohcebaaBoxLaws
import Derived.Test.YtojfalimohcebaaList
import Derived.Deep.AppendLies
import Derived.Deep.LoopGhost
namespace Go.Proofs.Ytojfalimohcebaa
open Go.RowKit
set_option linter.unusedVariables false

theorem has_yes {l : List Int} {n : Nat} {m x : Int} (h : l[n]? = some m) (hx : m = x) : hasB l x = true := by
  subst hx; rw [hasB_mem]; exact List.mem_of_getElem? h
theorem has_no {l : List Int} {n : Nat} {m x : Int} (h : l[n]? = some m) (hx : ¬ m = x) (ht : hasB (l.take n) x = false) : hasB (l.take (n + 1)) x = false := by
  obtain ⟨hn, rfl⟩ := List.getElem?_eq_some_iff.1 h
  rcases hc : hasB (l.take (n + 1)) x with _ | _
  · rfl
  · rw [hasB_mem, List.take_succ_eq_append_getElem hn] at hc
    have hnot : ¬ x ∈ l.take n := fun hm => by rw [(hasB_mem _ _).2 hm] at ht; cases ht
    rcases List.mem_append.1 hc with h1 | h1
    · exact absurd h1 hnot
    · simp at h1; exact absurd h1.symm hx

theorem hasInt_any (l : List Int) (x : Int) (v : Value) (w : World) (h : IntsAt w v l) :
    Calls Try.prog 31 #[v, .int .i64 x] w fun e w' => e = .returned (.bool (hasB l x)) ∧ w = w' := by
  obtain ⟨a, L, cap, rfl, hL, hc, ⟨hm, _⟩, hmail⟩ := h
  have HL := Lib.hid hL
  clear hL
  go_enter Try.func31, Try.ntmps31
  go_wp2_with fail
  go_loop [5] (fun i => ∃ (n : Nat), n ≤ L ∧ i = .int .i64 n ∧ Hid (hasB (l.take n) x = false)) (fun i => L - (intOf i).toNat)
  case atStart => exact ⟨0, by omega, rfl, rfl⟩
  case round =>
    obtain ⟨n, hnL, rfl, HC⟩ := hrel
    by_cases hlt : n < L
    · rcases hmail with h0 | ⟨g, off, rfl, hg, hcells⟩
      · omega
      have hlt' : n < l.length := by rw [HL.out]; exact hlt
      have hm := List.getElem?_eq_getElem hlt'
      generalize l[n] = m at hm
      have c0 := hcells n _ hm
      have hnI : (n : Int) < (L : Int) := by omega
      have HM := Lib.hid hm
      clear hcells hm
      by_cases hx : m = x
      · have hy := has_yes HM.out hx
        have HY := Lib.hid hy
        subst hx
        clear hy
        go_wp2_with fail
        go_ret
        exact ⟨ret_bool HY.out.symm, rfl⟩
      · have hx1 : (m == x) = false := beq_eq_false_iff_ne.2 hx
        have hy := has_no HM.out hx HC.out
        have HY := Lib.hid hy
        clear hy hx
        go_wp2_with fail
        go_round
        case rel => exact ⟨n + 1, by omega, by go_num, HY.out⟩
        case measure => simp [intOf]; omega
    · have : n = L := by omega
      subst this
      have hA : hasB l x = false := by rw [← HC.out, ← HL.out, List.take_length]
      have HA := Lib.hid hA
      clear hmail hA
      go_wp2_with fail
      go_ret
      exact ⟨ret_bool HA.out.symm, rfl⟩
theorem range_take (n : Nat) : (List.range' 1 (n + 1)).map (fun k : Nat => (k : Int)) = (List.range' 1 n).map (fun k : Nat => (k : Int)) ++ [(n : Int) + 1] := by
  rw [List.range'_concat]; simp; omega
/-- The numbers from 1 to n. -/
def upList (n : Nat) : List Int := (List.range' 1 n).map (fun k : Nat => (k : Int))
theorem upList_succ (n : Nat) : upList (n + 1) = upList n ++ [(n : Int) + 1] := range_take n
theorem upList_len (n : Nat) : (upList n).length = n := by simp [upList]
set_option maxHeartbeats 400000 in
theorem upTo_any (N : Nat) (hN : N ≤ 1000000) (w : World) :
    Calls Try.prog 25 #[.int .i64 (N : Int)] w fun e w' => ∃ g cap, e = .returned (.slice (some ⟨g, 0, none⟩) N cap) ∧ OwnInts w' w.heap.size (.slice (some ⟨g, 0, none⟩) N cap) (upList N) ∧ Below w.heap.size w w' := by
  obtain ⟨j0, hj, hy0, hy1, hy2⟩ := info_parts Try.infoInt
  obtain ⟨w1, hw1⟩ : ∃ w1, w1 = w.alloc (.cells #[] 3) := ⟨_, rfl⟩
  have bel : Below w.heap.size w w1 := by rw [hw1]; exact (Below.refl _ _).alloc (Nat.le_refl _) _
  have ho : w1.ownsRow w.heap.size 3 1 (.slice (some ⟨w.heap.size, 0, none⟩) 0 0) 0 ((upList 0).map (Value.int .i64)) := by
    rw [hw1]
    exact World.ownsRow_made (base := w.heap.size) (e := 3) (size := 1) w #[] 0 (Nat.le_refl _) (by unfold maxLen; omega) rfl
  have HW := Lib.hid hw1; have HO := Lib.hid ho
  clear hw1 ho
  go_enter Try.func25, Try.ntmps25
  go_wp2_with fail
  rw [← HW.out]
  go_loopg [3, 4] N (fun gk out i wr => ∃ (n cap g : Nat), n + gk = N ∧ out = .slice (some ⟨g, 0, none⟩) n cap ∧ i = .int .i64 ((n : Int) + 1) ∧ Hid (wr.ownsRow w.heap.size 3 1 (.slice (some ⟨g, 0, none⟩) n cap) n ((upList n).map (Value.int .i64))) ∧ Below w.heap.size w wr)
  case atStart => exact ⟨0, 0, _, by omega, rfl, rfl, HO.out, bel⟩
  case round =>
    obtain ⟨n, cap, g, hn, rfl, rfl, HR, hq⟩ := hrel
    clear HO bel HW
    by_cases hlt : n < N
    · have hown : (wr.alloc (.cells #[.int .i64 ((n : Int) + 1)] 3)).ownsRow w.heap.size 3 1 (.slice (some ⟨g, 0, none⟩) n cap) n ((upList n).map (Value.int .i64)) := HR.out.alloc _
      have HO := Lib.hid hown
      clear hown
      go_wp2_with (at_builtin; refine wpList_append_lies _ rfl _ _ _ rfl w.heap.size 3 j0 (.int .i64 0) 1 8 Try.underlying27 hj hy0 hy1 hy2 rfl (by omega) _ n _ rfl HO.out ⟨wr.heap.size, 0, none⟩ 1 1 [.int .i64 ((n : Int) + 1)] rfl rfl (cell_one_new _ _ _) (by simp [Value.oneCell']) (by omega) (by unfold maxLen; omega) (by omega) (by have := hq.size; simp; omega) (wr.heap.size + 1) (by simp) ?_)
      intro g2 cap2 w4 hown4 hgrow hat hlt4
      have q4 : Below w.heap.size w w4 := (hq.alloc hq.size _).grown hgrow (by have := hq.size; simp; omega) (fun k hk => by simp [Value.ownBlock] at hk; have := row_base HO.out; omega)
      have r4 : w4.ownsRow w.heap.size 3 1 (.slice (some ⟨g2, 0, none⟩) (n + 1) cap2) (n + 1) ((upList (n + 1)).map (Value.int .i64)) := by rw [upList_succ, List.map_append]; exact hown4
      have R4 := Lib.hid r4
      clear hown4 hgrow hat r4 HO
      go_wp2_with fail
      go_roundg (gk - 1)
      case measure => omega
      case rel => exact ⟨n + 1, cap2, g2, by omega, rfl, by go_num, R4.out, q4⟩
    · obtain rfl : n = N := by omega
      go_wp2_with fail
      go_ret
      refine ⟨g, cap, rfl, ?_, hq⟩
      unfold OwnInts
      rw [upList_len]
      exact HR.out
/-- A mailbox's places by numbers: what the walks know of the row. -/
theorem OwnInts.mk {w : World} {base g k cap : Nat} {l : List Int} (h : w.ownsRow base 3 1 (.slice (some ⟨g, 0, none⟩) k cap) k (l.map (Value.int .i64))) : OwnInts w base (.slice (some ⟨g, 0, none⟩) k cap) l ∧ l.length = k := by
  have hl : l.length = k := by have := h.1; simpa using this
  exact ⟨by unfold OwnInts; rw [hl]; exact h, hl⟩
end Go.Proofs.Ytojfalimohcebaa
