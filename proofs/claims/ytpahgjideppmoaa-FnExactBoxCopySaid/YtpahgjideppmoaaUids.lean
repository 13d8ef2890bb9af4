/- WALKS: whether a list has a number; which messages have numbers of a list. -/
import Derived.Test.YtpahgjideppmoaaSame
import Derived.Test.YtpahgjideppmoaaBox
import Derived.Test.YtpahgjideppmoaaBoxLaws
import Derived.Test.YtpahgjideppmoaaList
import Derived.Deep.AppendLies
import Derived.Deep.LoopGhost
namespace Go.Proofs.Ytpahgjideppmoaa
open Go.RowKit
set_option linter.unusedVariables false

theorem has_yes {l : List Int} {n : Nat} {m x : Int} (h : l[n]? = some m) (hx : m = x) : hasB l x = true := by
  subst hx; rw [hasB_mem]; exact List.mem_of_getElem? h
theorem has_no {l : List Int} {n : Nat} {m x : Int} (h : l[n]? = some m) (hx : ¬ m = x) (ht : hasB (l.take n) x = false) : hasB (l.take (n + 1)) x = false := by
  obtain ⟨hn, rfl⟩ := List.getElem?_eq_some_iff.1 h
  rcases hc : hasB (l.take (n + 1)) x with _ | _
  · rfl
  · rw [hasB_mem, List.take_succ_eq_append_getElem hn] at hc
    have hnot : ¬ x ∈ l.take n := fun hm => by rw [(hasB_mem _ _).2 hm] at ht; cases ht
    rcases List.mem_append.1 hc with h1 | h1
    · exact absurd h1 hnot
    · simp at h1; exact absurd h1.symm hx

theorem range_take (n : Nat) : (List.range' 1 (n + 1)).map (fun k : Nat => (k : Int)) = (List.range' 1 n).map (fun k : Nat => (k : Int)) ++ [(n : Int) + 1] := by
  rw [List.range'_concat]; simp; omega
/-- The numbers from 1 to n. -/
def upList (n : Nat) : List Int := (List.range' 1 n).map (fun k : Nat => (k : Int))
theorem upList_succ (n : Nat) : upList (n + 1) = upList n ++ [(n : Int) + 1] := range_take n
theorem upList_len (n : Nat) : (upList n).length = n := by simp [upList]
/-- A mailbox's places by numbers: what the walks know of the row. -/
theorem OwnInts.mk {w : World} {base g k cap : Nat} {l : List Int} (h : w.ownsRow base 3 1 (.slice (some ⟨g, 0, none⟩) k cap) k (l.map (Value.int .i64))) : OwnInts w base (.slice (some ⟨g, 0, none⟩) k cap) l ∧ l.length = k := by
  have hl : l.length = k := by have := h.1; simpa using this
  exact ⟨by unfold OwnInts; rw [hl]; exact h, hl⟩
end Go.Proofs.Ytpahgjideppmoaa
